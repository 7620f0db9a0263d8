/- Closed facts of the program's types, and that its functions have bodies: each by the kernel.
   No condition. -/
import Derived.Test.YtligejpfbcdpmaaDoorK2
import Derived.Test.YtligejpfbcdpmaaDoorProg
namespace Go.Proofs.YtligejpfbcdpmaaDoor
open Go.Proofs.YtligejpfbcdpmaaDoor.Dv
theorem Dv.Sz.mk {P : Program} {t : TypeId} {n : Nat} (h : (P.info? t).map (·.size) = some n) : Sz P t n := h
theorem Dv.By.mk {P : Program} {t : TypeId} {n : Nat} (h : (P.info? t).map (·.bytes) = some n) : By P t n := h
theorem Dv.Zr.mk {P : Program} {t : TypeId} {z : Value} (h : (P.info? t).bind (·.zero) = some z) : Zr P t z := h
theorem Dv.Sc.mk {P : Program} {t : TypeId} (h : (P.underlying t).map aggD = some false) : Sc P t := h
namespace T
theorem sz0 : Sz Tryd.prog 0 1 := Sz.mk (by kernel_rfl)
theorem by0 : By Tryd.prog 0 0 := By.mk (by kernel_rfl)
theorem zr0 : Zr Tryd.prog 0 (.tuple #[]) := Zr.mk (by kernel_rfl)
theorem sc0 : Sc Tryd.prog 0 := Sc.mk (by kernel_rfl)
theorem sz1 : Sz Tryd.prog 1 1 := Sz.mk (by kernel_rfl)
theorem by1 : By Tryd.prog 1 8 := By.mk (by kernel_rfl)
theorem zr1 : Zr Tryd.prog 1 (.nilFunc) := Zr.mk (by kernel_rfl)
theorem sc1 : Sc Tryd.prog 1 := Sc.mk (by kernel_rfl)
theorem sz2 : Sz Tryd.prog 2 1 := Sz.mk (by kernel_rfl)
theorem by2 : By Tryd.prog 2 8 := By.mk (by kernel_rfl)
theorem zr2 : Zr Tryd.prog 2 (.int .i64 0) := Zr.mk (by kernel_rfl)
theorem sc2 : Sc Tryd.prog 2 := Sc.mk (by kernel_rfl)
theorem sz3 : Sz Tryd.prog 3 1 := Sz.mk (by kernel_rfl)
theorem by3 : By Tryd.prog 3 8 := By.mk (by kernel_rfl)
theorem zr3 : Zr Tryd.prog 3 (.int .i64 0) := Zr.mk (by kernel_rfl)
theorem sc3 : Sc Tryd.prog 3 := Sc.mk (by kernel_rfl)
theorem sz4 : Sz Tryd.prog 4 1 := Sz.mk (by kernel_rfl)
theorem by4 : By Tryd.prog 4 1 := By.mk (by kernel_rfl)
theorem zr4 : Zr Tryd.prog 4 (.bool false) := Zr.mk (by kernel_rfl)
theorem sc4 : Sc Tryd.prog 4 := Sc.mk (by kernel_rfl)
theorem sz5 : Sz Tryd.prog 5 1 := Sz.mk (by kernel_rfl)
theorem by5 : By Tryd.prog 5 1 := By.mk (by kernel_rfl)
theorem zr5 : Zr Tryd.prog 5 (.int .u8 0) := Zr.mk (by kernel_rfl)
theorem sc5 : Sc Tryd.prog 5 := Sc.mk (by kernel_rfl)
theorem sz6 : Sz Tryd.prog 6 1 := Sz.mk (by kernel_rfl)
theorem by6 : By Tryd.prog 6 1 := By.mk (by kernel_rfl)
theorem zr6 : Zr Tryd.prog 6 (.int .u8 0) := Zr.mk (by kernel_rfl)
theorem sc6 : Sc Tryd.prog 6 := Sc.mk (by kernel_rfl)
theorem sz7 : Sz Tryd.prog 7 4 := Sz.mk (by kernel_rfl)
theorem by7 : By Tryd.prog 7 24 := By.mk (by kernel_rfl)
theorem zr7 : Zr Tryd.prog 7 (.agg #[.int .i64 0, .int .i64 0, .bool false, .int .u8 0]) := Zr.mk (by kernel_rfl)
theorem ag7 : Ag Tryd.prog 7 4 := ⟨by kernel_rfl, Sz.mk (by kernel_rfl)⟩
theorem fd7_0 : fdOf Tryd.prog 7 0 = some (0, 2, 1) := by kernel_rfl
theorem fd7_1 : fdOf Tryd.prog 7 1 = some (1, 3, 1) := by kernel_rfl
theorem fd7_2 : fdOf Tryd.prog 7 2 = some (2, 4, 1) := by kernel_rfl
theorem fd7_3 : fdOf Tryd.prog 7 3 = some (3, 6, 1) := by kernel_rfl
theorem sz8 : Sz Tryd.prog 8 4 := Sz.mk (by kernel_rfl)
theorem by8 : By Tryd.prog 8 24 := By.mk (by kernel_rfl)
theorem zr8 : Zr Tryd.prog 8 (.agg #[.int .i64 0, .int .i64 0, .bool false, .int .u8 0]) := Zr.mk (by kernel_rfl)
theorem ag8 : Ag Tryd.prog 8 4 := ⟨by kernel_rfl, Sz.mk (by kernel_rfl)⟩
theorem fd8_0 : fdOf Tryd.prog 8 0 = some (0, 2, 1) := by kernel_rfl
theorem fd8_1 : fdOf Tryd.prog 8 1 = some (1, 3, 1) := by kernel_rfl
theorem fd8_2 : fdOf Tryd.prog 8 2 = some (2, 4, 1) := by kernel_rfl
theorem fd8_3 : fdOf Tryd.prog 8 3 = some (3, 6, 1) := by kernel_rfl
theorem sz9 : Sz Tryd.prog 9 1 := Sz.mk (by kernel_rfl)
theorem by9 : By Tryd.prog 9 16 := By.mk (by kernel_rfl)
theorem zr9 : Zr Tryd.prog 9 (.string ⟨#[]⟩) := Zr.mk (by kernel_rfl)
theorem sc9 : Sc Tryd.prog 9 := Sc.mk (by kernel_rfl)
theorem sz10 : Sz Tryd.prog 10 1 := Sz.mk (by kernel_rfl)
theorem by10 : By Tryd.prog 10 16 := By.mk (by kernel_rfl)
theorem zr10 : Zr Tryd.prog 10 (.string ⟨#[]⟩) := Zr.mk (by kernel_rfl)
theorem sc10 : Sc Tryd.prog 10 := Sc.mk (by kernel_rfl)
theorem sz11 : Sz Tryd.prog 11 1 := Sz.mk (by kernel_rfl)
theorem by11 : By Tryd.prog 11 16 := By.mk (by kernel_rfl)
theorem zr11 : Zr Tryd.prog 11 (.string ⟨#[]⟩) := Zr.mk (by kernel_rfl)
theorem sc11 : Sc Tryd.prog 11 := Sc.mk (by kernel_rfl)
theorem sz12 : Sz Tryd.prog 12 1 := Sz.mk (by kernel_rfl)
theorem by12 : By Tryd.prog 12 8 := By.mk (by kernel_rfl)
theorem zr12 : Zr Tryd.prog 12 (.int .u64 0) := Zr.mk (by kernel_rfl)
theorem sc12 : Sc Tryd.prog 12 := Sc.mk (by kernel_rfl)
theorem sz13 : Sz Tryd.prog 13 2 := Sz.mk (by kernel_rfl)
theorem by13 : By Tryd.prog 13 24 := By.mk (by kernel_rfl)
theorem zr13 : Zr Tryd.prog 13 (.agg #[.string ⟨#[]⟩, .int .u64 0]) := Zr.mk (by kernel_rfl)
theorem ag13 : Ag Tryd.prog 13 2 := ⟨by kernel_rfl, Sz.mk (by kernel_rfl)⟩
theorem fd13_0 : fdOf Tryd.prog 13 0 = some (0, 9, 1) := by kernel_rfl
theorem fd13_1 : fdOf Tryd.prog 13 1 = some (1, 12, 1) := by kernel_rfl
theorem sz14 : Sz Tryd.prog 14 2 := Sz.mk (by kernel_rfl)
theorem by14 : By Tryd.prog 14 24 := By.mk (by kernel_rfl)
theorem zr14 : Zr Tryd.prog 14 (.agg #[.string ⟨#[]⟩, .int .u64 0]) := Zr.mk (by kernel_rfl)
theorem ag14 : Ag Tryd.prog 14 2 := ⟨by kernel_rfl, Sz.mk (by kernel_rfl)⟩
theorem fd14_0 : fdOf Tryd.prog 14 0 = some (0, 9, 1) := by kernel_rfl
theorem fd14_1 : fdOf Tryd.prog 14 1 = some (1, 12, 1) := by kernel_rfl
theorem sz15 : Sz Tryd.prog 15 1 := Sz.mk (by kernel_rfl)
theorem by15 : By Tryd.prog 15 8 := By.mk (by kernel_rfl)
theorem zr15 : Zr Tryd.prog 15 (.pointer none) := Zr.mk (by kernel_rfl)
theorem sc15 : Sc Tryd.prog 15 := Sc.mk (by kernel_rfl)
theorem sz16 : Sz Tryd.prog 16 1 := Sz.mk (by kernel_rfl)
theorem by16 : By Tryd.prog 16 8 := By.mk (by kernel_rfl)
theorem zr16 : Zr Tryd.prog 16 (.pointer none) := Zr.mk (by kernel_rfl)
theorem sc16 : Sc Tryd.prog 16 := Sc.mk (by kernel_rfl)
theorem sz17 : Sz Tryd.prog 17 1 := Sz.mk (by kernel_rfl)
theorem by17 : By Tryd.prog 17 8 := By.mk (by kernel_rfl)
theorem zr17 : Zr Tryd.prog 17 (.pointer none) := Zr.mk (by kernel_rfl)
theorem sc17 : Sc Tryd.prog 17 := Sc.mk (by kernel_rfl)
theorem sz18 : Sz Tryd.prog 18 1 := Sz.mk (by kernel_rfl)
theorem by18 : By Tryd.prog 18 8 := By.mk (by kernel_rfl)
theorem zr18 : Zr Tryd.prog 18 (.agg #[.pointer none]) := Zr.mk (by kernel_rfl)
theorem ag18 : Ag Tryd.prog 18 1 := ⟨by kernel_rfl, Sz.mk (by kernel_rfl)⟩
theorem fd18_0 : fdOf Tryd.prog 18 0 = some (0, 17, 1) := by kernel_rfl
theorem sz19 : Sz Tryd.prog 19 1 := Sz.mk (by kernel_rfl)
theorem by19 : By Tryd.prog 19 8 := By.mk (by kernel_rfl)
theorem zr19 : Zr Tryd.prog 19 (.agg #[.pointer none]) := Zr.mk (by kernel_rfl)
theorem ag19 : Ag Tryd.prog 19 1 := ⟨by kernel_rfl, Sz.mk (by kernel_rfl)⟩
theorem fd19_0 : fdOf Tryd.prog 19 0 = some (0, 17, 1) := by kernel_rfl
theorem sz20 : Sz Tryd.prog 20 1 := Sz.mk (by kernel_rfl)
theorem by20 : By Tryd.prog 20 16 := By.mk (by kernel_rfl)
theorem zr20 : Zr Tryd.prog 20 (.nilIface) := Zr.mk (by kernel_rfl)
theorem sc20 : Sc Tryd.prog 20 := Sc.mk (by kernel_rfl)
theorem sz21 : Sz Tryd.prog 21 1 := Sz.mk (by kernel_rfl)
theorem by21 : By Tryd.prog 21 4 := By.mk (by kernel_rfl)
theorem zr21 : Zr Tryd.prog 21 (.int .i32 0) := Zr.mk (by kernel_rfl)
theorem sc21 : Sc Tryd.prog 21 := Sc.mk (by kernel_rfl)
theorem sz22 : Sz Tryd.prog 22 1 := Sz.mk (by kernel_rfl)
theorem by22 : By Tryd.prog 22 24 := By.mk (by kernel_rfl)
theorem zr22 : Zr Tryd.prog 22 (.slice none 0 0) := Zr.mk (by kernel_rfl)
theorem sc22 : Sc Tryd.prog 22 := Sc.mk (by kernel_rfl)
theorem sz23 : Sz Tryd.prog 23 3 := Sz.mk (by kernel_rfl)
theorem by23 : By Tryd.prog 23 72 := By.mk (by kernel_rfl)
theorem zr23 : Zr Tryd.prog 23 (.agg #[.slice none 0 0, .slice none 0 0, .slice none 0 0]) := Zr.mk (by kernel_rfl)
theorem ag23 : Ag Tryd.prog 23 3 := ⟨by kernel_rfl, Sz.mk (by kernel_rfl)⟩
theorem fd23_0 : fdOf Tryd.prog 23 0 = some (0, 22, 1) := by kernel_rfl
theorem fd23_1 : fdOf Tryd.prog 23 1 = some (1, 22, 1) := by kernel_rfl
theorem fd23_2 : fdOf Tryd.prog 23 2 = some (2, 22, 1) := by kernel_rfl
theorem sz24 : Sz Tryd.prog 24 3 := Sz.mk (by kernel_rfl)
theorem by24 : By Tryd.prog 24 72 := By.mk (by kernel_rfl)
theorem zr24 : Zr Tryd.prog 24 (.agg #[.slice none 0 0, .slice none 0 0, .slice none 0 0]) := Zr.mk (by kernel_rfl)
theorem ag24 : Ag Tryd.prog 24 3 := ⟨by kernel_rfl, Sz.mk (by kernel_rfl)⟩
theorem fd24_0 : fdOf Tryd.prog 24 0 = some (0, 22, 1) := by kernel_rfl
theorem fd24_1 : fdOf Tryd.prog 24 1 = some (1, 22, 1) := by kernel_rfl
theorem fd24_2 : fdOf Tryd.prog 24 2 = some (2, 22, 1) := by kernel_rfl
theorem sz25 : Sz Tryd.prog 25 64 := Sz.mk (by kernel_rfl)
theorem by25 : By Tryd.prog 25 64 := By.mk (by kernel_rfl)
theorem zr25 : Zr Tryd.prog 25 (.agg (Array.replicate 64 (.bool false))) := Zr.mk (by kernel_rfl)
theorem ag25 : Ag Tryd.prog 25 64 := ⟨by kernel_rfl, Sz.mk (by kernel_rfl)⟩
theorem sz26 : Sz Tryd.prog 26 64 := Sz.mk (by kernel_rfl)
theorem by26 : By Tryd.prog 26 64 := By.mk (by kernel_rfl)
theorem zr26 : Zr Tryd.prog 26 (.agg (Array.replicate 64 (.bool false))) := Zr.mk (by kernel_rfl)
theorem ag26 : Ag Tryd.prog 26 64 := ⟨by kernel_rfl, Sz.mk (by kernel_rfl)⟩
theorem sz27 : Sz Tryd.prog 27 1 := Sz.mk (by kernel_rfl)
theorem by27 : By Tryd.prog 27 24 := By.mk (by kernel_rfl)
theorem zr27 : Zr Tryd.prog 27 (.slice none 0 0) := Zr.mk (by kernel_rfl)
theorem sc27 : Sc Tryd.prog 27 := Sc.mk (by kernel_rfl)
theorem sz28 : Sz Tryd.prog 28 1 := Sz.mk (by kernel_rfl)
theorem by28 : By Tryd.prog 28 8 := By.mk (by kernel_rfl)
theorem zr28 : Zr Tryd.prog 28 (.int .u64 0) := Zr.mk (by kernel_rfl)
theorem sc28 : Sc Tryd.prog 28 := Sc.mk (by kernel_rfl)
theorem sz29 : Sz Tryd.prog 29 1 := Sz.mk (by kernel_rfl)
theorem by29 : By Tryd.prog 29 8 := By.mk (by kernel_rfl)
theorem zr29 : Zr Tryd.prog 29 (.int .u64 0) := Zr.mk (by kernel_rfl)
theorem sc29 : Sc Tryd.prog 29 := Sc.mk (by kernel_rfl)
theorem sz30 : Sz Tryd.prog 30 1 := Sz.mk (by kernel_rfl)
theorem by30 : By Tryd.prog 30 8 := By.mk (by kernel_rfl)
theorem zr30 : Zr Tryd.prog 30 (.nilFunc) := Zr.mk (by kernel_rfl)
theorem sc30 : Sc Tryd.prog 30 := Sc.mk (by kernel_rfl)
theorem sz32 : Sz Tryd.prog 32 1 := Sz.mk (by kernel_rfl)
theorem by32 : By Tryd.prog 32 8 := By.mk (by kernel_rfl)
theorem zr32 : Zr Tryd.prog 32 (.nilFunc) := Zr.mk (by kernel_rfl)
theorem sc32 : Sc Tryd.prog 32 := Sc.mk (by kernel_rfl)
theorem sz38 : Sz Tryd.prog 38 1 := Sz.mk (by kernel_rfl)
theorem by38 : By Tryd.prog 38 8 := By.mk (by kernel_rfl)
theorem zr38 : Zr Tryd.prog 38 (.nilFunc) := Zr.mk (by kernel_rfl)
theorem sc38 : Sc Tryd.prog 38 := Sc.mk (by kernel_rfl)
theorem sz42 : Sz Tryd.prog 42 1 := Sz.mk (by kernel_rfl)
theorem by42 : By Tryd.prog 42 8 := By.mk (by kernel_rfl)
theorem zr42 : Zr Tryd.prog 42 (.nilFunc) := Zr.mk (by kernel_rfl)
theorem sc42 : Sc Tryd.prog 42 := Sc.mk (by kernel_rfl)
theorem sz44 : Sz Tryd.prog 44 1 := Sz.mk (by kernel_rfl)
theorem by44 : By Tryd.prog 44 8 := By.mk (by kernel_rfl)
theorem zr44 : Zr Tryd.prog 44 (.nilFunc) := Zr.mk (by kernel_rfl)
theorem sc44 : Sc Tryd.prog 44 := Sc.mk (by kernel_rfl)
theorem sz45 : Sz Tryd.prog 45 1 := Sz.mk (by kernel_rfl)
theorem by45 : By Tryd.prog 45 8 := By.mk (by kernel_rfl)
theorem zr45 : Zr Tryd.prog 45 (.nilFunc) := Zr.mk (by kernel_rfl)
theorem sc45 : Sc Tryd.prog 45 := Sc.mk (by kernel_rfl)
theorem sz46 : Sz Tryd.prog 46 1 := Sz.mk (by kernel_rfl)
theorem by46 : By Tryd.prog 46 8 := By.mk (by kernel_rfl)
theorem zr46 : Zr Tryd.prog 46 (.nilFunc) := Zr.mk (by kernel_rfl)
theorem sc46 : Sc Tryd.prog 46 := Sc.mk (by kernel_rfl)
theorem sz47 : Sz Tryd.prog 47 1 := Sz.mk (by kernel_rfl)
theorem by47 : By Tryd.prog 47 8 := By.mk (by kernel_rfl)
theorem zr47 : Zr Tryd.prog 47 (.nilFunc) := Zr.mk (by kernel_rfl)
theorem sc47 : Sc Tryd.prog 47 := Sc.mk (by kernel_rfl)
theorem sz52 : Sz Tryd.prog 52 1 := Sz.mk (by kernel_rfl)
theorem by52 : By Tryd.prog 52 8 := By.mk (by kernel_rfl)
theorem zr52 : Zr Tryd.prog 52 (.pointer none) := Zr.mk (by kernel_rfl)
theorem sc52 : Sc Tryd.prog 52 := Sc.mk (by kernel_rfl)
theorem sz53 : Sz Tryd.prog 53 2 := Sz.mk (by kernel_rfl)
theorem by53 : By Tryd.prog 53 32 := By.mk (by kernel_rfl)
theorem zr53 : Zr Tryd.prog 53 (.agg #[.slice none 0 0, .int .i64 0]) := Zr.mk (by kernel_rfl)
theorem ag53 : Ag Tryd.prog 53 2 := ⟨by kernel_rfl, Sz.mk (by kernel_rfl)⟩
theorem fd53_0 : fdOf Tryd.prog 53 0 = some (0, 22, 1) := by kernel_rfl
theorem fd53_1 : fdOf Tryd.prog 53 1 = some (1, 3, 1) := by kernel_rfl
theorem sz54 : Sz Tryd.prog 54 2 := Sz.mk (by kernel_rfl)
theorem by54 : By Tryd.prog 54 32 := By.mk (by kernel_rfl)
theorem zr54 : Zr Tryd.prog 54 (.agg #[.slice none 0 0, .int .i64 0]) := Zr.mk (by kernel_rfl)
theorem ag54 : Ag Tryd.prog 54 2 := ⟨by kernel_rfl, Sz.mk (by kernel_rfl)⟩
theorem fd54_0 : fdOf Tryd.prog 54 0 = some (0, 22, 1) := by kernel_rfl
theorem fd54_1 : fdOf Tryd.prog 54 1 = some (1, 3, 1) := by kernel_rfl
theorem sz55 : Sz Tryd.prog 55 1 := Sz.mk (by kernel_rfl)
theorem by55 : By Tryd.prog 55 24 := By.mk (by kernel_rfl)
theorem zr55 : Zr Tryd.prog 55 (.slice none 0 0) := Zr.mk (by kernel_rfl)
theorem sc55 : Sc Tryd.prog 55 := Sc.mk (by kernel_rfl)
theorem sz56 : Sz Tryd.prog 56 1 := Sz.mk (by kernel_rfl)
theorem by56 : By Tryd.prog 56 24 := By.mk (by kernel_rfl)
theorem zr56 : Zr Tryd.prog 56 (.slice none 0 0) := Zr.mk (by kernel_rfl)
theorem sc56 : Sc Tryd.prog 56 := Sc.mk (by kernel_rfl)
theorem sz57 : Sz Tryd.prog 57 4 := Sz.mk (by kernel_rfl)
theorem by57 : By Tryd.prog 57 80 := By.mk (by kernel_rfl)
theorem zr57 : Zr Tryd.prog 57 (.agg #[.slice none 0 0, .slice none 0 0, .int .i64 0, .slice none 0 0]) := Zr.mk (by kernel_rfl)
theorem ag57 : Ag Tryd.prog 57 4 := ⟨by kernel_rfl, Sz.mk (by kernel_rfl)⟩
theorem fd57_0 : fdOf Tryd.prog 57 0 = some (0, 55, 1) := by kernel_rfl
theorem fd57_1 : fdOf Tryd.prog 57 1 = some (1, 55, 1) := by kernel_rfl
theorem fd57_2 : fdOf Tryd.prog 57 2 = some (2, 3, 1) := by kernel_rfl
theorem fd57_3 : fdOf Tryd.prog 57 3 = some (3, 56, 1) := by kernel_rfl
theorem sz58 : Sz Tryd.prog 58 4 := Sz.mk (by kernel_rfl)
theorem by58 : By Tryd.prog 58 80 := By.mk (by kernel_rfl)
theorem zr58 : Zr Tryd.prog 58 (.agg #[.slice none 0 0, .slice none 0 0, .int .i64 0, .slice none 0 0]) := Zr.mk (by kernel_rfl)
theorem ag58 : Ag Tryd.prog 58 4 := ⟨by kernel_rfl, Sz.mk (by kernel_rfl)⟩
theorem fd58_0 : fdOf Tryd.prog 58 0 = some (0, 55, 1) := by kernel_rfl
theorem fd58_1 : fdOf Tryd.prog 58 1 = some (1, 55, 1) := by kernel_rfl
theorem fd58_2 : fdOf Tryd.prog 58 2 = some (2, 3, 1) := by kernel_rfl
theorem fd58_3 : fdOf Tryd.prog 58 3 = some (3, 56, 1) := by kernel_rfl
theorem sz60 : Sz Tryd.prog 60 1 := Sz.mk (by kernel_rfl)
theorem by60 : By Tryd.prog 60 8 := By.mk (by kernel_rfl)
theorem zr60 : Zr Tryd.prog 60 (.nilFunc) := Zr.mk (by kernel_rfl)
theorem sc60 : Sc Tryd.prog 60 := Sc.mk (by kernel_rfl)
theorem sz61 : Sz Tryd.prog 61 1 := Sz.mk (by kernel_rfl)
theorem by61 : By Tryd.prog 61 24 := By.mk (by kernel_rfl)
theorem zr61 : Zr Tryd.prog 61 (.slice none 0 0) := Zr.mk (by kernel_rfl)
theorem sc61 : Sc Tryd.prog 61 := Sc.mk (by kernel_rfl)
theorem sz62 : Sz Tryd.prog 62 2 := Sz.mk (by kernel_rfl)
theorem by62 : By Tryd.prog 62 48 := By.mk (by kernel_rfl)
theorem zr62 : Zr Tryd.prog 62 (.agg #[.slice none 0 0, .slice none 0 0]) := Zr.mk (by kernel_rfl)
theorem ag62 : Ag Tryd.prog 62 2 := ⟨by kernel_rfl, Sz.mk (by kernel_rfl)⟩
theorem fd62_0 : fdOf Tryd.prog 62 0 = some (0, 61, 1) := by kernel_rfl
theorem fd62_1 : fdOf Tryd.prog 62 1 = some (1, 61, 1) := by kernel_rfl
theorem sz63 : Sz Tryd.prog 63 2 := Sz.mk (by kernel_rfl)
theorem by63 : By Tryd.prog 63 48 := By.mk (by kernel_rfl)
theorem zr63 : Zr Tryd.prog 63 (.agg #[.slice none 0 0, .slice none 0 0]) := Zr.mk (by kernel_rfl)
theorem ag63 : Ag Tryd.prog 63 2 := ⟨by kernel_rfl, Sz.mk (by kernel_rfl)⟩
theorem fd63_0 : fdOf Tryd.prog 63 0 = some (0, 61, 1) := by kernel_rfl
theorem fd63_1 : fdOf Tryd.prog 63 1 = some (1, 61, 1) := by kernel_rfl
theorem sz64 : Sz Tryd.prog 64 1 := Sz.mk (by kernel_rfl)
theorem by64 : By Tryd.prog 64 16 := By.mk (by kernel_rfl)
theorem zr64 : Zr Tryd.prog 64 (.nilIface) := Zr.mk (by kernel_rfl)
theorem sc64 : Sc Tryd.prog 64 := Sc.mk (by kernel_rfl)
theorem sz65 : Sz Tryd.prog 65 1 := Sz.mk (by kernel_rfl)
theorem by65 : By Tryd.prog 65 16 := By.mk (by kernel_rfl)
theorem zr65 : Zr Tryd.prog 65 (.nilIface) := Zr.mk (by kernel_rfl)
theorem sc65 : Sc Tryd.prog 65 := Sc.mk (by kernel_rfl)
theorem sz68 : Sz Tryd.prog 68 1 := Sz.mk (by kernel_rfl)
theorem by68 : By Tryd.prog 68 24 := By.mk (by kernel_rfl)
theorem zr68 : Zr Tryd.prog 68 (.slice none 0 0) := Zr.mk (by kernel_rfl)
theorem sc68 : Sc Tryd.prog 68 := Sc.mk (by kernel_rfl)
theorem sz69 : Sz Tryd.prog 69 1 := Sz.mk (by kernel_rfl)
theorem by69 : By Tryd.prog 69 8 := By.mk (by kernel_rfl)
theorem zr69 : Zr Tryd.prog 69 (.map none) := Zr.mk (by kernel_rfl)
theorem sc69 : Sc Tryd.prog 69 := Sc.mk (by kernel_rfl)
theorem sz70 : Sz Tryd.prog 70 2 := Sz.mk (by kernel_rfl)
theorem by70 : By Tryd.prog 70 32 := By.mk (by kernel_rfl)
theorem zr70 : Zr Tryd.prog 70 (.agg #[.int .i64 0, .slice none 0 0]) := Zr.mk (by kernel_rfl)
theorem ag70 : Ag Tryd.prog 70 2 := ⟨by kernel_rfl, Sz.mk (by kernel_rfl)⟩
theorem fd70_0 : fdOf Tryd.prog 70 0 = some (0, 3, 1) := by kernel_rfl
theorem fd70_1 : fdOf Tryd.prog 70 1 = some (1, 27, 1) := by kernel_rfl
theorem sz71 : Sz Tryd.prog 71 2 := Sz.mk (by kernel_rfl)
theorem by71 : By Tryd.prog 71 32 := By.mk (by kernel_rfl)
theorem zr71 : Zr Tryd.prog 71 (.agg #[.int .i64 0, .slice none 0 0]) := Zr.mk (by kernel_rfl)
theorem ag71 : Ag Tryd.prog 71 2 := ⟨by kernel_rfl, Sz.mk (by kernel_rfl)⟩
theorem fd71_0 : fdOf Tryd.prog 71 0 = some (0, 3, 1) := by kernel_rfl
theorem fd71_1 : fdOf Tryd.prog 71 1 = some (1, 27, 1) := by kernel_rfl
theorem sz75 : Sz Tryd.prog 75 1 := Sz.mk (by kernel_rfl)
theorem by75 : By Tryd.prog 75 0 := By.mk (by kernel_rfl)
theorem zr75 : Zr Tryd.prog 75 (.tuple #[.slice none 0 0, .bool false]) := Zr.mk (by kernel_rfl)
theorem sc75 : Sc Tryd.prog 75 := Sc.mk (by kernel_rfl)
theorem sz76 : Sz Tryd.prog 76 1 := Sz.mk (by kernel_rfl)
theorem by76 : By Tryd.prog 76 8 := By.mk (by kernel_rfl)
theorem zr76 : Zr Tryd.prog 76 (.nilFunc) := Zr.mk (by kernel_rfl)
theorem sc76 : Sc Tryd.prog 76 := Sc.mk (by kernel_rfl)
theorem sz80 : Sz Tryd.prog 80 1 := Sz.mk (by kernel_rfl)
theorem by80 : By Tryd.prog 80 24 := By.mk (by kernel_rfl)
theorem zr80 : Zr Tryd.prog 80 (.slice none 0 0) := Zr.mk (by kernel_rfl)
theorem sc80 : Sc Tryd.prog 80 := Sc.mk (by kernel_rfl)
theorem sz81 : Sz Tryd.prog 81 4 := Sz.mk (by kernel_rfl)
theorem by81 : By Tryd.prog 81 56 := By.mk (by kernel_rfl)
theorem zr81 : Zr Tryd.prog 81 (.agg #[.int .i64 0, .int .i64 0, .string ⟨#[]⟩, .slice none 0 0]) := Zr.mk (by kernel_rfl)
theorem ag81 : Ag Tryd.prog 81 4 := ⟨by kernel_rfl, Sz.mk (by kernel_rfl)⟩
theorem fd81_0 : fdOf Tryd.prog 81 0 = some (0, 3, 1) := by kernel_rfl
theorem fd81_1 : fdOf Tryd.prog 81 1 = some (1, 3, 1) := by kernel_rfl
theorem fd81_2 : fdOf Tryd.prog 81 2 = some (2, 9, 1) := by kernel_rfl
theorem fd81_3 : fdOf Tryd.prog 81 3 = some (3, 80, 1) := by kernel_rfl
theorem sz82 : Sz Tryd.prog 82 4 := Sz.mk (by kernel_rfl)
theorem by82 : By Tryd.prog 82 56 := By.mk (by kernel_rfl)
theorem zr82 : Zr Tryd.prog 82 (.agg #[.int .i64 0, .int .i64 0, .string ⟨#[]⟩, .slice none 0 0]) := Zr.mk (by kernel_rfl)
theorem ag82 : Ag Tryd.prog 82 4 := ⟨by kernel_rfl, Sz.mk (by kernel_rfl)⟩
theorem fd82_0 : fdOf Tryd.prog 82 0 = some (0, 3, 1) := by kernel_rfl
theorem fd82_1 : fdOf Tryd.prog 82 1 = some (1, 3, 1) := by kernel_rfl
theorem fd82_2 : fdOf Tryd.prog 82 2 = some (2, 9, 1) := by kernel_rfl
theorem fd82_3 : fdOf Tryd.prog 82 3 = some (3, 80, 1) := by kernel_rfl
theorem sz83 : Sz Tryd.prog 83 1 := Sz.mk (by kernel_rfl)
theorem by83 : By Tryd.prog 83 0 := By.mk (by kernel_rfl)
theorem zr83 : Zr Tryd.prog 83 (.tuple #[.slice none 0 0, .agg #[.int .i64 0, .int .i64 0, .string ⟨#[]⟩, .slice none 0 0]]) := Zr.mk (by kernel_rfl)
theorem sc83 : Sc Tryd.prog 83 := Sc.mk (by kernel_rfl)
theorem sz87 : Sz Tryd.prog 87 1 := Sz.mk (by kernel_rfl)
theorem by87 : By Tryd.prog 87 0 := By.mk (by kernel_rfl)
theorem zr87 : Zr Tryd.prog 87 (.tuple #[.string ⟨#[]⟩, .nilIface]) := Zr.mk (by kernel_rfl)
theorem sc87 : Sc Tryd.prog 87 := Sc.mk (by kernel_rfl)
theorem sz90 : Sz Tryd.prog 90 3 := Sz.mk (by kernel_rfl)
theorem by90 : By Tryd.prog 90 24 := By.mk (by kernel_rfl)
theorem zr90 : Zr Tryd.prog 90 (.agg #[.int .i64 0, .int .i64 0, .int .i64 0]) := Zr.mk (by kernel_rfl)
theorem ag90 : Ag Tryd.prog 90 3 := ⟨by kernel_rfl, Sz.mk (by kernel_rfl)⟩
theorem sz93 : Sz Tryd.prog 93 1 := Sz.mk (by kernel_rfl)
theorem by93 : By Tryd.prog 93 8 := By.mk (by kernel_rfl)
theorem zr93 : Zr Tryd.prog 93 (.nilFunc) := Zr.mk (by kernel_rfl)
theorem sc93 : Sc Tryd.prog 93 := Sc.mk (by kernel_rfl)
theorem sz94 : Sz Tryd.prog 94 1 := Sz.mk (by kernel_rfl)
theorem by94 : By Tryd.prog 94 8 := By.mk (by kernel_rfl)
theorem zr94 : Zr Tryd.prog 94 (.pointer none) := Zr.mk (by kernel_rfl)
theorem sc94 : Sc Tryd.prog 94 := Sc.mk (by kernel_rfl)
theorem sz96 : Sz Tryd.prog 96 1 := Sz.mk (by kernel_rfl)
theorem by96 : By Tryd.prog 96 8 := By.mk (by kernel_rfl)
theorem zr96 : Zr Tryd.prog 96 (.pointer none) := Zr.mk (by kernel_rfl)
theorem sc96 : Sc Tryd.prog 96 := Sc.mk (by kernel_rfl)
theorem sz97 : Sz Tryd.prog 97 2 := Sz.mk (by kernel_rfl)
theorem by97 : By Tryd.prog 97 24 := By.mk (by kernel_rfl)
theorem zr97 : Zr Tryd.prog 97 (.agg #[.int .i64 0, .nilIface]) := Zr.mk (by kernel_rfl)
theorem ag97 : Ag Tryd.prog 97 2 := ⟨by kernel_rfl, Sz.mk (by kernel_rfl)⟩
theorem fd97_0 : fdOf Tryd.prog 97 0 = some (0, 3, 1) := by kernel_rfl
theorem fd97_1 : fdOf Tryd.prog 97 1 = some (1, 65, 1) := by kernel_rfl
theorem sz98 : Sz Tryd.prog 98 2 := Sz.mk (by kernel_rfl)
theorem by98 : By Tryd.prog 98 24 := By.mk (by kernel_rfl)
theorem zr98 : Zr Tryd.prog 98 (.agg #[.int .i64 0, .nilIface]) := Zr.mk (by kernel_rfl)
theorem ag98 : Ag Tryd.prog 98 2 := ⟨by kernel_rfl, Sz.mk (by kernel_rfl)⟩
theorem fd98_0 : fdOf Tryd.prog 98 0 = some (0, 3, 1) := by kernel_rfl
theorem fd98_1 : fdOf Tryd.prog 98 1 = some (1, 65, 1) := by kernel_rfl
theorem sz99 : Sz Tryd.prog 99 1 := Sz.mk (by kernel_rfl)
theorem by99 : By Tryd.prog 99 24 := By.mk (by kernel_rfl)
theorem zr99 : Zr Tryd.prog 99 (.slice none 0 0) := Zr.mk (by kernel_rfl)
theorem sc99 : Sc Tryd.prog 99 := Sc.mk (by kernel_rfl)
theorem sz100 : Sz Tryd.prog 100 2 := Sz.mk (by kernel_rfl)
theorem by100 : By Tryd.prog 100 16 := By.mk (by kernel_rfl)
theorem zr100 : Zr Tryd.prog 100 (.agg #[.int .i64 0, .int .i64 0]) := Zr.mk (by kernel_rfl)
theorem ag100 : Ag Tryd.prog 100 2 := ⟨by kernel_rfl, Sz.mk (by kernel_rfl)⟩
theorem sz101 : Sz Tryd.prog 101 1 := Sz.mk (by kernel_rfl)
theorem by101 : By Tryd.prog 101 0 := By.mk (by kernel_rfl)
theorem zr101 : Zr Tryd.prog 101 (.tuple #[.slice none 0 0, .nilIface]) := Zr.mk (by kernel_rfl)
theorem sc101 : Sc Tryd.prog 101 := Sc.mk (by kernel_rfl)
theorem sz104 : Sz Tryd.prog 104 1 := Sz.mk (by kernel_rfl)
theorem by104 : By Tryd.prog 104 24 := By.mk (by kernel_rfl)
theorem zr104 : Zr Tryd.prog 104 (.slice none 0 0) := Zr.mk (by kernel_rfl)
theorem sc104 : Sc Tryd.prog 104 := Sc.mk (by kernel_rfl)
theorem sz108 : Sz Tryd.prog 108 1 := Sz.mk (by kernel_rfl)
theorem by108 : By Tryd.prog 108 8 := By.mk (by kernel_rfl)
theorem zr108 : Zr Tryd.prog 108 (.nilFunc) := Zr.mk (by kernel_rfl)
theorem sc108 : Sc Tryd.prog 108 := Sc.mk (by kernel_rfl)
theorem sz111 : Sz Tryd.prog 111 1 := Sz.mk (by kernel_rfl)
theorem by111 : By Tryd.prog 111 8 := By.mk (by kernel_rfl)
theorem zr111 : Zr Tryd.prog 111 (.nilFunc) := Zr.mk (by kernel_rfl)
theorem sc111 : Sc Tryd.prog 111 := Sc.mk (by kernel_rfl)
theorem sz115 : Sz Tryd.prog 115 1 := Sz.mk (by kernel_rfl)
theorem by115 : By Tryd.prog 115 8 := By.mk (by kernel_rfl)
theorem zr115 : Zr Tryd.prog 115 (.map none) := Zr.mk (by kernel_rfl)
theorem sc115 : Sc Tryd.prog 115 := Sc.mk (by kernel_rfl)
theorem sz117 : Sz Tryd.prog 117 1 := Sz.mk (by kernel_rfl)
theorem by117 : By Tryd.prog 117 24 := By.mk (by kernel_rfl)
theorem zr117 : Zr Tryd.prog 117 (.slice none 0 0) := Zr.mk (by kernel_rfl)
theorem sc117 : Sc Tryd.prog 117 := Sc.mk (by kernel_rfl)
theorem sz118 : Sz Tryd.prog 118 4 := Sz.mk (by kernel_rfl)
theorem by118 : By Tryd.prog 118 64 := By.mk (by kernel_rfl)
theorem zr118 : Zr Tryd.prog 118 (.agg #[.string ⟨#[]⟩, .string ⟨#[]⟩, .string ⟨#[]⟩, .string ⟨#[]⟩]) := Zr.mk (by kernel_rfl)
theorem ag118 : Ag Tryd.prog 118 4 := ⟨by kernel_rfl, Sz.mk (by kernel_rfl)⟩
theorem sz119 : Sz Tryd.prog 119 3 := Sz.mk (by kernel_rfl)
theorem by119 : By Tryd.prog 119 32 := By.mk (by kernel_rfl)
theorem zr119 : Zr Tryd.prog 119 (.agg #[.string ⟨#[]⟩, .bool false, .int .i64 0]) := Zr.mk (by kernel_rfl)
theorem ag119 : Ag Tryd.prog 119 3 := ⟨by kernel_rfl, Sz.mk (by kernel_rfl)⟩
theorem fd119_0 : fdOf Tryd.prog 119 0 = some (0, 9, 1) := by kernel_rfl
theorem fd119_1 : fdOf Tryd.prog 119 1 = some (1, 4, 1) := by kernel_rfl
theorem fd119_2 : fdOf Tryd.prog 119 2 = some (2, 3, 1) := by kernel_rfl
theorem sz120 : Sz Tryd.prog 120 3 := Sz.mk (by kernel_rfl)
theorem by120 : By Tryd.prog 120 32 := By.mk (by kernel_rfl)
theorem zr120 : Zr Tryd.prog 120 (.agg #[.string ⟨#[]⟩, .bool false, .int .i64 0]) := Zr.mk (by kernel_rfl)
theorem ag120 : Ag Tryd.prog 120 3 := ⟨by kernel_rfl, Sz.mk (by kernel_rfl)⟩
theorem fd120_0 : fdOf Tryd.prog 120 0 = some (0, 9, 1) := by kernel_rfl
theorem fd120_1 : fdOf Tryd.prog 120 1 = some (1, 4, 1) := by kernel_rfl
theorem fd120_2 : fdOf Tryd.prog 120 2 = some (2, 3, 1) := by kernel_rfl
theorem sz123 : Sz Tryd.prog 123 1 := Sz.mk (by kernel_rfl)
theorem by123 : By Tryd.prog 123 8 := By.mk (by kernel_rfl)
theorem zr123 : Zr Tryd.prog 123 (.nilFunc) := Zr.mk (by kernel_rfl)
theorem sc123 : Sc Tryd.prog 123 := Sc.mk (by kernel_rfl)
theorem sz124 : Sz Tryd.prog 124 1 := Sz.mk (by kernel_rfl)
theorem by124 : By Tryd.prog 124 0 := By.mk (by kernel_rfl)
theorem zr124 : Zr Tryd.prog 124 (.tuple #[.slice none 0 0, .nilIface]) := Zr.mk (by kernel_rfl)
theorem sc124 : Sc Tryd.prog 124 := Sc.mk (by kernel_rfl)
theorem sz126 : Sz Tryd.prog 126 3 := Sz.mk (by kernel_rfl)
theorem by126 : By Tryd.prog 126 48 := By.mk (by kernel_rfl)
theorem zr126 : Zr Tryd.prog 126 (.agg #[.string ⟨#[]⟩, .string ⟨#[]⟩, .string ⟨#[]⟩]) := Zr.mk (by kernel_rfl)
theorem ag126 : Ag Tryd.prog 126 3 := ⟨by kernel_rfl, Sz.mk (by kernel_rfl)⟩
theorem sz133 : Sz Tryd.prog 133 1 := Sz.mk (by kernel_rfl)
theorem by133 : By Tryd.prog 133 8 := By.mk (by kernel_rfl)
theorem zr133 : Zr Tryd.prog 133 (.nilFunc) := Zr.mk (by kernel_rfl)
theorem sc133 : Sc Tryd.prog 133 := Sc.mk (by kernel_rfl)
theorem sz134 : Sz Tryd.prog 134 1 := Sz.mk (by kernel_rfl)
theorem by134 : By Tryd.prog 134 8 := By.mk (by kernel_rfl)
theorem zr134 : Zr Tryd.prog 134 (.nilFunc) := Zr.mk (by kernel_rfl)
theorem sc134 : Sc Tryd.prog 134 := Sc.mk (by kernel_rfl)
theorem sz137 : Sz Tryd.prog 137 1 := Sz.mk (by kernel_rfl)
theorem by137 : By Tryd.prog 137 8 := By.mk (by kernel_rfl)
theorem zr137 : Zr Tryd.prog 137 (.nilFunc) := Zr.mk (by kernel_rfl)
theorem sc137 : Sc Tryd.prog 137 := Sc.mk (by kernel_rfl)
theorem sz138 : Sz Tryd.prog 138 1 := Sz.mk (by kernel_rfl)
theorem by138 : By Tryd.prog 138 8 := By.mk (by kernel_rfl)
theorem zr138 : Zr Tryd.prog 138 (.pointer none) := Zr.mk (by kernel_rfl)
theorem sc138 : Sc Tryd.prog 138 := Sc.mk (by kernel_rfl)
theorem sz141 : Sz Tryd.prog 141 1 := Sz.mk (by kernel_rfl)
theorem by141 : By Tryd.prog 141 8 := By.mk (by kernel_rfl)
theorem zr141 : Zr Tryd.prog 141 (.pointer none) := Zr.mk (by kernel_rfl)
theorem sc141 : Sc Tryd.prog 141 := Sc.mk (by kernel_rfl)
theorem sz142 : Sz Tryd.prog 142 1 := Sz.mk (by kernel_rfl)
theorem by142 : By Tryd.prog 142 8 := By.mk (by kernel_rfl)
theorem zr142 : Zr Tryd.prog 142 (.pointer none) := Zr.mk (by kernel_rfl)
theorem sc142 : Sc Tryd.prog 142 := Sc.mk (by kernel_rfl)
theorem sz143 : Sz Tryd.prog 143 2 := Sz.mk (by kernel_rfl)
theorem by143 : By Tryd.prog 143 24 := By.mk (by kernel_rfl)
theorem zr143 : Zr Tryd.prog 143 (.agg #[.int .i64 0, .nilIface]) := Zr.mk (by kernel_rfl)
theorem ag143 : Ag Tryd.prog 143 2 := ⟨by kernel_rfl, Sz.mk (by kernel_rfl)⟩
theorem fd143_0 : fdOf Tryd.prog 143 0 = some (0, 3, 1) := by kernel_rfl
theorem fd143_1 : fdOf Tryd.prog 143 1 = some (1, 65, 1) := by kernel_rfl
theorem sz144 : Sz Tryd.prog 144 2 := Sz.mk (by kernel_rfl)
theorem by144 : By Tryd.prog 144 24 := By.mk (by kernel_rfl)
theorem zr144 : Zr Tryd.prog 144 (.agg #[.int .i64 0, .nilIface]) := Zr.mk (by kernel_rfl)
theorem ag144 : Ag Tryd.prog 144 2 := ⟨by kernel_rfl, Sz.mk (by kernel_rfl)⟩
theorem fd144_0 : fdOf Tryd.prog 144 0 = some (0, 3, 1) := by kernel_rfl
theorem fd144_1 : fdOf Tryd.prog 144 1 = some (1, 65, 1) := by kernel_rfl
theorem sz146 : Sz Tryd.prog 146 1 := Sz.mk (by kernel_rfl)
theorem by146 : By Tryd.prog 146 8 := By.mk (by kernel_rfl)
theorem zr146 : Zr Tryd.prog 146 (.nilFunc) := Zr.mk (by kernel_rfl)
theorem sc146 : Sc Tryd.prog 146 := Sc.mk (by kernel_rfl)
theorem sz150 : Sz Tryd.prog 150 1 := Sz.mk (by kernel_rfl)
theorem by150 : By Tryd.prog 150 8 := By.mk (by kernel_rfl)
theorem zr150 : Zr Tryd.prog 150 (.nilFunc) := Zr.mk (by kernel_rfl)
theorem sc150 : Sc Tryd.prog 150 := Sc.mk (by kernel_rfl)
theorem sz152 : Sz Tryd.prog 152 1 := Sz.mk (by kernel_rfl)
theorem by152 : By Tryd.prog 152 8 := By.mk (by kernel_rfl)
theorem zr152 : Zr Tryd.prog 152 (.nilFunc) := Zr.mk (by kernel_rfl)
theorem sc152 : Sc Tryd.prog 152 := Sc.mk (by kernel_rfl)
theorem sz153 : Sz Tryd.prog 153 1 := Sz.mk (by kernel_rfl)
theorem by153 : By Tryd.prog 153 8 := By.mk (by kernel_rfl)
theorem zr153 : Zr Tryd.prog 153 (.nilFunc) := Zr.mk (by kernel_rfl)
theorem sc153 : Sc Tryd.prog 153 := Sc.mk (by kernel_rfl)
theorem sz154 : Sz Tryd.prog 154 1 := Sz.mk (by kernel_rfl)
theorem by154 : By Tryd.prog 154 8 := By.mk (by kernel_rfl)
theorem zr154 : Zr Tryd.prog 154 (.nilFunc) := Zr.mk (by kernel_rfl)
theorem sc154 : Sc Tryd.prog 154 := Sc.mk (by kernel_rfl)
theorem sz155 : Sz Tryd.prog 155 1 := Sz.mk (by kernel_rfl)
theorem by155 : By Tryd.prog 155 8 := By.mk (by kernel_rfl)
theorem zr155 : Zr Tryd.prog 155 (.nilFunc) := Zr.mk (by kernel_rfl)
theorem sc155 : Sc Tryd.prog 155 := Sc.mk (by kernel_rfl)
theorem sz158 : Sz Tryd.prog 158 1 := Sz.mk (by kernel_rfl)
theorem by158 : By Tryd.prog 158 24 := By.mk (by kernel_rfl)
theorem zr158 : Zr Tryd.prog 158 (.slice none 0 0) := Zr.mk (by kernel_rfl)
theorem sc158 : Sc Tryd.prog 158 := Sc.mk (by kernel_rfl)
theorem sz163 : Sz Tryd.prog 163 1 := Sz.mk (by kernel_rfl)
theorem by163 : By Tryd.prog 163 8 := By.mk (by kernel_rfl)
theorem zr163 : Zr Tryd.prog 163 (.nilFunc) := Zr.mk (by kernel_rfl)
theorem sc163 : Sc Tryd.prog 163 := Sc.mk (by kernel_rfl)
theorem sz171 : Sz Tryd.prog 171 1 := Sz.mk (by kernel_rfl)
theorem by171 : By Tryd.prog 171 8 := By.mk (by kernel_rfl)
theorem zr171 : Zr Tryd.prog 171 (.nilFunc) := Zr.mk (by kernel_rfl)
theorem sc171 : Sc Tryd.prog 171 := Sc.mk (by kernel_rfl)
theorem sz172 : Sz Tryd.prog 172 1 := Sz.mk (by kernel_rfl)
theorem by172 : By Tryd.prog 172 8 := By.mk (by kernel_rfl)
theorem zr172 : Zr Tryd.prog 172 (.nilFunc) := Zr.mk (by kernel_rfl)
theorem sc172 : Sc Tryd.prog 172 := Sc.mk (by kernel_rfl)
theorem sz174 : Sz Tryd.prog 174 1 := Sz.mk (by kernel_rfl)
theorem by174 : By Tryd.prog 174 8 := By.mk (by kernel_rfl)
theorem zr174 : Zr Tryd.prog 174 (.nilFunc) := Zr.mk (by kernel_rfl)
theorem sc174 : Sc Tryd.prog 174 := Sc.mk (by kernel_rfl)
theorem sz175 : Sz Tryd.prog 175 1 := Sz.mk (by kernel_rfl)
theorem by175 : By Tryd.prog 175 8 := By.mk (by kernel_rfl)
theorem zr175 : Zr Tryd.prog 175 (.nilFunc) := Zr.mk (by kernel_rfl)
theorem sc175 : Sc Tryd.prog 175 := Sc.mk (by kernel_rfl)
theorem sz176 : Sz Tryd.prog 176 1 := Sz.mk (by kernel_rfl)
theorem by176 : By Tryd.prog 176 16 := By.mk (by kernel_rfl)
theorem zr176 : Zr Tryd.prog 176 (.nilIface) := Zr.mk (by kernel_rfl)
theorem sc176 : Sc Tryd.prog 176 := Sc.mk (by kernel_rfl)
theorem sz177 : Sz Tryd.prog 177 1 := Sz.mk (by kernel_rfl)
theorem by177 : By Tryd.prog 177 16 := By.mk (by kernel_rfl)
theorem zr177 : Zr Tryd.prog 177 (.nilIface) := Zr.mk (by kernel_rfl)
theorem sc177 : Sc Tryd.prog 177 := Sc.mk (by kernel_rfl)
theorem sz181 : Sz Tryd.prog 181 1 := Sz.mk (by kernel_rfl)
theorem by181 : By Tryd.prog 181 24 := By.mk (by kernel_rfl)
theorem zr181 : Zr Tryd.prog 181 (.slice none 0 0) := Zr.mk (by kernel_rfl)
theorem sc181 : Sc Tryd.prog 181 := Sc.mk (by kernel_rfl)
theorem sz184 : Sz Tryd.prog 184 1 := Sz.mk (by kernel_rfl)
theorem by184 : By Tryd.prog 184 8 := By.mk (by kernel_rfl)
theorem zr184 : Zr Tryd.prog 184 (.pointer none) := Zr.mk (by kernel_rfl)
theorem sc184 : Sc Tryd.prog 184 := Sc.mk (by kernel_rfl)
theorem sz188 : Sz Tryd.prog 188 1 := Sz.mk (by kernel_rfl)
theorem by188 : By Tryd.prog 188 24 := By.mk (by kernel_rfl)
theorem zr188 : Zr Tryd.prog 188 (.slice none 0 0) := Zr.mk (by kernel_rfl)
theorem sc188 : Sc Tryd.prog 188 := Sc.mk (by kernel_rfl)
theorem sz189 : Sz Tryd.prog 189 2 := Sz.mk (by kernel_rfl)
theorem by189 : By Tryd.prog 189 16 := By.mk (by kernel_rfl)
theorem zr189 : Zr Tryd.prog 189 (.agg #[.int .i64 0, .int .i64 0]) := Zr.mk (by kernel_rfl)
theorem ag189 : Ag Tryd.prog 189 2 := ⟨by kernel_rfl, Sz.mk (by kernel_rfl)⟩
theorem fd189_0 : fdOf Tryd.prog 189 0 = some (0, 3, 1) := by kernel_rfl
theorem fd189_1 : fdOf Tryd.prog 189 1 = some (1, 3, 1) := by kernel_rfl
theorem sz190 : Sz Tryd.prog 190 2 := Sz.mk (by kernel_rfl)
theorem by190 : By Tryd.prog 190 16 := By.mk (by kernel_rfl)
theorem zr190 : Zr Tryd.prog 190 (.agg #[.int .i64 0, .int .i64 0]) := Zr.mk (by kernel_rfl)
theorem ag190 : Ag Tryd.prog 190 2 := ⟨by kernel_rfl, Sz.mk (by kernel_rfl)⟩
theorem fd190_0 : fdOf Tryd.prog 190 0 = some (0, 3, 1) := by kernel_rfl
theorem fd190_1 : fdOf Tryd.prog 190 1 = some (1, 3, 1) := by kernel_rfl
theorem sz193 : Sz Tryd.prog 193 1 := Sz.mk (by kernel_rfl)
theorem by193 : By Tryd.prog 193 8 := By.mk (by kernel_rfl)
theorem zr193 : Zr Tryd.prog 193 (.pointer none) := Zr.mk (by kernel_rfl)
theorem sc193 : Sc Tryd.prog 193 := Sc.mk (by kernel_rfl)
theorem sz194 : Sz Tryd.prog 194 1 := Sz.mk (by kernel_rfl)
theorem by194 : By Tryd.prog 194 8 := By.mk (by kernel_rfl)
theorem zr194 : Zr Tryd.prog 194 (.int .u64 0) := Zr.mk (by kernel_rfl)
theorem sc194 : Sc Tryd.prog 194 := Sc.mk (by kernel_rfl)
theorem sz195 : Sz Tryd.prog 195 3 := Sz.mk (by kernel_rfl)
theorem by195 : By Tryd.prog 195 24 := By.mk (by kernel_rfl)
theorem zr195 : Zr Tryd.prog 195 (.agg #[.pointer none, .pointer none, .int .u64 0]) := Zr.mk (by kernel_rfl)
theorem ag195 : Ag Tryd.prog 195 3 := ⟨by kernel_rfl, Sz.mk (by kernel_rfl)⟩
theorem fd195_0 : fdOf Tryd.prog 195 0 = some (0, 17, 1) := by kernel_rfl
theorem fd195_1 : fdOf Tryd.prog 195 1 = some (1, 193, 1) := by kernel_rfl
theorem fd195_2 : fdOf Tryd.prog 195 2 = some (2, 194, 1) := by kernel_rfl
theorem sz196 : Sz Tryd.prog 196 3 := Sz.mk (by kernel_rfl)
theorem by196 : By Tryd.prog 196 24 := By.mk (by kernel_rfl)
theorem zr196 : Zr Tryd.prog 196 (.agg #[.pointer none, .pointer none, .int .u64 0]) := Zr.mk (by kernel_rfl)
theorem ag196 : Ag Tryd.prog 196 3 := ⟨by kernel_rfl, Sz.mk (by kernel_rfl)⟩
theorem fd196_0 : fdOf Tryd.prog 196 0 = some (0, 17, 1) := by kernel_rfl
theorem fd196_1 : fdOf Tryd.prog 196 1 = some (1, 193, 1) := by kernel_rfl
theorem fd196_2 : fdOf Tryd.prog 196 2 = some (2, 194, 1) := by kernel_rfl
theorem sz199 : Sz Tryd.prog 199 1 := Sz.mk (by kernel_rfl)
theorem by199 : By Tryd.prog 199 1 := By.mk (by kernel_rfl)
theorem zr199 : Zr Tryd.prog 199 (.int .u8 0) := Zr.mk (by kernel_rfl)
theorem sc199 : Sc Tryd.prog 199 := Sc.mk (by kernel_rfl)
theorem sz207 : Sz Tryd.prog 207 1 := Sz.mk (by kernel_rfl)
theorem by207 : By Tryd.prog 207 8 := By.mk (by kernel_rfl)
theorem zr207 : Zr Tryd.prog 207 (.nilFunc) := Zr.mk (by kernel_rfl)
theorem sc207 : Sc Tryd.prog 207 := Sc.mk (by kernel_rfl)
theorem sz208 : Sz Tryd.prog 208 1 := Sz.mk (by kernel_rfl)
theorem by208 : By Tryd.prog 208 8 := By.mk (by kernel_rfl)
theorem zr208 : Zr Tryd.prog 208 (.pointer none) := Zr.mk (by kernel_rfl)
theorem sc208 : Sc Tryd.prog 208 := Sc.mk (by kernel_rfl)
theorem sz209 : Sz Tryd.prog 209 2 := Sz.mk (by kernel_rfl)
theorem by209 : By Tryd.prog 209 32 := By.mk (by kernel_rfl)
theorem zr209 : Zr Tryd.prog 209 (.agg #[.pointer none, .slice none 0 0]) := Zr.mk (by kernel_rfl)
theorem ag209 : Ag Tryd.prog 209 2 := ⟨by kernel_rfl, Sz.mk (by kernel_rfl)⟩
theorem fd209_0 : fdOf Tryd.prog 209 0 = some (0, 208, 1) := by kernel_rfl
theorem fd209_1 : fdOf Tryd.prog 209 1 = some (1, 22, 1) := by kernel_rfl
theorem sz210 : Sz Tryd.prog 210 2 := Sz.mk (by kernel_rfl)
theorem by210 : By Tryd.prog 210 32 := By.mk (by kernel_rfl)
theorem zr210 : Zr Tryd.prog 210 (.agg #[.pointer none, .slice none 0 0]) := Zr.mk (by kernel_rfl)
theorem ag210 : Ag Tryd.prog 210 2 := ⟨by kernel_rfl, Sz.mk (by kernel_rfl)⟩
theorem fd210_0 : fdOf Tryd.prog 210 0 = some (0, 208, 1) := by kernel_rfl
theorem fd210_1 : fdOf Tryd.prog 210 1 = some (1, 22, 1) := by kernel_rfl
theorem sz213 : Sz Tryd.prog 213 4 := Sz.mk (by kernel_rfl)
theorem by213 : By Tryd.prog 213 4 := By.mk (by kernel_rfl)
theorem zr213 : Zr Tryd.prog 213 (.agg #[.int .u8 0, .int .u8 0, .int .u8 0, .int .u8 0]) := Zr.mk (by kernel_rfl)
theorem ag213 : Ag Tryd.prog 213 4 := ⟨by kernel_rfl, Sz.mk (by kernel_rfl)⟩
theorem sz214 : Sz Tryd.prog 214 1 := Sz.mk (by kernel_rfl)
theorem by214 : By Tryd.prog 214 0 := By.mk (by kernel_rfl)
theorem zr214 : Zr Tryd.prog 214 (.tuple #[.int .i64 0, .nilIface]) := Zr.mk (by kernel_rfl)
theorem sc214 : Sc Tryd.prog 214 := Sc.mk (by kernel_rfl)
theorem sz216 : Sz Tryd.prog 216 1 := Sz.mk (by kernel_rfl)
theorem by216 : By Tryd.prog 216 8 := By.mk (by kernel_rfl)
theorem zr216 : Zr Tryd.prog 216 (.int .u64 0) := Zr.mk (by kernel_rfl)
theorem sc216 : Sc Tryd.prog 216 := Sc.mk (by kernel_rfl)
theorem sz224 : Sz Tryd.prog 224 1 := Sz.mk (by kernel_rfl)
theorem by224 : By Tryd.prog 224 8 := By.mk (by kernel_rfl)
theorem zr224 : Zr Tryd.prog 224 (.nilFunc) := Zr.mk (by kernel_rfl)
theorem sc224 : Sc Tryd.prog 224 := Sc.mk (by kernel_rfl)
theorem sz225 : Sz Tryd.prog 225 1 := Sz.mk (by kernel_rfl)
theorem by225 : By Tryd.prog 225 8 := By.mk (by kernel_rfl)
theorem zr225 : Zr Tryd.prog 225 (.nilFunc) := Zr.mk (by kernel_rfl)
theorem sc225 : Sc Tryd.prog 225 := Sc.mk (by kernel_rfl)
theorem sz226 : Sz Tryd.prog 226 1 := Sz.mk (by kernel_rfl)
theorem by226 : By Tryd.prog 226 8 := By.mk (by kernel_rfl)
theorem zr226 : Zr Tryd.prog 226 (.nilFunc) := Zr.mk (by kernel_rfl)
theorem sc226 : Sc Tryd.prog 226 := Sc.mk (by kernel_rfl)
theorem sz228 : Sz Tryd.prog 228 1 := Sz.mk (by kernel_rfl)
theorem by228 : By Tryd.prog 228 8 := By.mk (by kernel_rfl)
theorem zr228 : Zr Tryd.prog 228 (.nilFunc) := Zr.mk (by kernel_rfl)
theorem sc228 : Sc Tryd.prog 228 := Sc.mk (by kernel_rfl)
theorem sz229 : Sz Tryd.prog 229 1 := Sz.mk (by kernel_rfl)
theorem by229 : By Tryd.prog 229 8 := By.mk (by kernel_rfl)
theorem zr229 : Zr Tryd.prog 229 (.nilFunc) := Zr.mk (by kernel_rfl)
theorem sc229 : Sc Tryd.prog 229 := Sc.mk (by kernel_rfl)
theorem sz230 : Sz Tryd.prog 230 1 := Sz.mk (by kernel_rfl)
theorem by230 : By Tryd.prog 230 8 := By.mk (by kernel_rfl)
theorem zr230 : Zr Tryd.prog 230 (.map none) := Zr.mk (by kernel_rfl)
theorem sc230 : Sc Tryd.prog 230 := Sc.mk (by kernel_rfl)
theorem sz231 : Sz Tryd.prog 231 3 := Sz.mk (by kernel_rfl)
theorem by231 : By Tryd.prog 231 56 := By.mk (by kernel_rfl)
theorem zr231 : Zr Tryd.prog 231 (.agg #[.map none, .slice none 0 0, .slice none 0 0]) := Zr.mk (by kernel_rfl)
theorem ag231 : Ag Tryd.prog 231 3 := ⟨by kernel_rfl, Sz.mk (by kernel_rfl)⟩
theorem fd231_0 : fdOf Tryd.prog 231 0 = some (0, 230, 1) := by kernel_rfl
theorem fd231_1 : fdOf Tryd.prog 231 1 = some (1, 27, 1) := by kernel_rfl
theorem fd231_2 : fdOf Tryd.prog 231 2 = some (2, 104, 1) := by kernel_rfl
theorem sz232 : Sz Tryd.prog 232 3 := Sz.mk (by kernel_rfl)
theorem by232 : By Tryd.prog 232 56 := By.mk (by kernel_rfl)
theorem zr232 : Zr Tryd.prog 232 (.agg #[.map none, .slice none 0 0, .slice none 0 0]) := Zr.mk (by kernel_rfl)
theorem ag232 : Ag Tryd.prog 232 3 := ⟨by kernel_rfl, Sz.mk (by kernel_rfl)⟩
theorem fd232_0 : fdOf Tryd.prog 232 0 = some (0, 230, 1) := by kernel_rfl
theorem fd232_1 : fdOf Tryd.prog 232 1 = some (1, 27, 1) := by kernel_rfl
theorem fd232_2 : fdOf Tryd.prog 232 2 = some (2, 104, 1) := by kernel_rfl
theorem sz233 : Sz Tryd.prog 233 2 := Sz.mk (by kernel_rfl)
theorem by233 : By Tryd.prog 233 16 := By.mk (by kernel_rfl)
theorem zr233 : Zr Tryd.prog 233 (.agg #[.int .i64 0, .int .i64 0]) := Zr.mk (by kernel_rfl)
theorem ag233 : Ag Tryd.prog 233 2 := ⟨by kernel_rfl, Sz.mk (by kernel_rfl)⟩
theorem fd233_0 : fdOf Tryd.prog 233 0 = some (0, 3, 1) := by kernel_rfl
theorem fd233_1 : fdOf Tryd.prog 233 1 = some (1, 3, 1) := by kernel_rfl
theorem sz234 : Sz Tryd.prog 234 2 := Sz.mk (by kernel_rfl)
theorem by234 : By Tryd.prog 234 16 := By.mk (by kernel_rfl)
theorem zr234 : Zr Tryd.prog 234 (.agg #[.int .i64 0, .int .i64 0]) := Zr.mk (by kernel_rfl)
theorem ag234 : Ag Tryd.prog 234 2 := ⟨by kernel_rfl, Sz.mk (by kernel_rfl)⟩
theorem fd234_0 : fdOf Tryd.prog 234 0 = some (0, 3, 1) := by kernel_rfl
theorem fd234_1 : fdOf Tryd.prog 234 1 = some (1, 3, 1) := by kernel_rfl
theorem sz237 : Sz Tryd.prog 237 1 := Sz.mk (by kernel_rfl)
theorem by237 : By Tryd.prog 237 8 := By.mk (by kernel_rfl)
theorem zr237 : Zr Tryd.prog 237 (.nilFunc) := Zr.mk (by kernel_rfl)
theorem sc237 : Sc Tryd.prog 237 := Sc.mk (by kernel_rfl)
theorem sz238 : Sz Tryd.prog 238 1 := Sz.mk (by kernel_rfl)
theorem by238 : By Tryd.prog 238 8 := By.mk (by kernel_rfl)
theorem zr238 : Zr Tryd.prog 238 (.nilFunc) := Zr.mk (by kernel_rfl)
theorem sc238 : Sc Tryd.prog 238 := Sc.mk (by kernel_rfl)
theorem sz243 : Sz Tryd.prog 243 1 := Sz.mk (by kernel_rfl)
theorem by243 : By Tryd.prog 243 8 := By.mk (by kernel_rfl)
theorem zr243 : Zr Tryd.prog 243 (.nilFunc) := Zr.mk (by kernel_rfl)
theorem sc243 : Sc Tryd.prog 243 := Sc.mk (by kernel_rfl)
theorem sz244 : Sz Tryd.prog 244 64 := Sz.mk (by kernel_rfl)
theorem by244 : By Tryd.prog 244 64 := By.mk (by kernel_rfl)
theorem zr244 : Zr Tryd.prog 244 (.agg (Array.replicate 64 (.int .u8 0))) := Zr.mk (by kernel_rfl)
theorem ag244 : Ag Tryd.prog 244 64 := ⟨by kernel_rfl, Sz.mk (by kernel_rfl)⟩
theorem sz253 : Sz Tryd.prog 253 1 := Sz.mk (by kernel_rfl)
theorem by253 : By Tryd.prog 253 16 := By.mk (by kernel_rfl)
theorem zr253 : Zr Tryd.prog 253 (.nilIface) := Zr.mk (by kernel_rfl)
theorem sc253 : Sc Tryd.prog 253 := Sc.mk (by kernel_rfl)
theorem sz256 : Sz Tryd.prog 256 1 := Sz.mk (by kernel_rfl)
theorem by256 : By Tryd.prog 256 16 := By.mk (by kernel_rfl)
theorem zr256 : Zr Tryd.prog 256 (.nilIface) := Zr.mk (by kernel_rfl)
theorem sc256 : Sc Tryd.prog 256 := Sc.mk (by kernel_rfl)
theorem sz258 : Sz Tryd.prog 258 1 := Sz.mk (by kernel_rfl)
theorem by258 : By Tryd.prog 258 16 := By.mk (by kernel_rfl)
theorem zr258 : Zr Tryd.prog 258 (.nilIface) := Zr.mk (by kernel_rfl)
theorem sc258 : Sc Tryd.prog 258 := Sc.mk (by kernel_rfl)
theorem sz259 : Sz Tryd.prog 259 1 := Sz.mk (by kernel_rfl)
theorem by259 : By Tryd.prog 259 24 := By.mk (by kernel_rfl)
theorem zr259 : Zr Tryd.prog 259 (.slice none 0 0) := Zr.mk (by kernel_rfl)
theorem sc259 : Sc Tryd.prog 259 := Sc.mk (by kernel_rfl)
theorem sz261 : Sz Tryd.prog 261 1 := Sz.mk (by kernel_rfl)
theorem by261 : By Tryd.prog 261 24 := By.mk (by kernel_rfl)
theorem zr261 : Zr Tryd.prog 261 (.slice none 0 0) := Zr.mk (by kernel_rfl)
theorem sc261 : Sc Tryd.prog 261 := Sc.mk (by kernel_rfl)
theorem sz263 : Sz Tryd.prog 263 1 := Sz.mk (by kernel_rfl)
theorem by263 : By Tryd.prog 263 24 := By.mk (by kernel_rfl)
theorem zr263 : Zr Tryd.prog 263 (.slice none 0 0) := Zr.mk (by kernel_rfl)
theorem sc263 : Sc Tryd.prog 263 := Sc.mk (by kernel_rfl)
theorem sz265 : Sz Tryd.prog 265 2 := Sz.mk (by kernel_rfl)
theorem by265 : By Tryd.prog 265 48 := By.mk (by kernel_rfl)
theorem zr265 : Zr Tryd.prog 265 (.agg #[.slice none 0 0, .slice none 0 0]) := Zr.mk (by kernel_rfl)
theorem ag265 : Ag Tryd.prog 265 2 := ⟨by kernel_rfl, Sz.mk (by kernel_rfl)⟩
theorem fd265_0 : fdOf Tryd.prog 265 0 = some (0, 27, 1) := by kernel_rfl
theorem fd265_1 : fdOf Tryd.prog 265 1 = some (1, 27, 1) := by kernel_rfl
theorem sz266 : Sz Tryd.prog 266 2 := Sz.mk (by kernel_rfl)
theorem by266 : By Tryd.prog 266 48 := By.mk (by kernel_rfl)
theorem zr266 : Zr Tryd.prog 266 (.agg #[.slice none 0 0, .slice none 0 0]) := Zr.mk (by kernel_rfl)
theorem ag266 : Ag Tryd.prog 266 2 := ⟨by kernel_rfl, Sz.mk (by kernel_rfl)⟩
theorem fd266_0 : fdOf Tryd.prog 266 0 = some (0, 27, 1) := by kernel_rfl
theorem fd266_1 : fdOf Tryd.prog 266 1 = some (1, 27, 1) := by kernel_rfl
theorem sz270 : Sz Tryd.prog 270 1 := Sz.mk (by kernel_rfl)
theorem by270 : By Tryd.prog 270 16 := By.mk (by kernel_rfl)
theorem zr270 : Zr Tryd.prog 270 (.nilIface) := Zr.mk (by kernel_rfl)
theorem sc270 : Sc Tryd.prog 270 := Sc.mk (by kernel_rfl)
theorem sz274 : Sz Tryd.prog 274 1 := Sz.mk (by kernel_rfl)
theorem by274 : By Tryd.prog 274 8 := By.mk (by kernel_rfl)
theorem zr274 : Zr Tryd.prog 274 (.pointer none) := Zr.mk (by kernel_rfl)
theorem sc274 : Sc Tryd.prog 274 := Sc.mk (by kernel_rfl)
theorem sz283 : Sz Tryd.prog 283 1 := Sz.mk (by kernel_rfl)
theorem by283 : By Tryd.prog 283 8 := By.mk (by kernel_rfl)
theorem zr283 : Zr Tryd.prog 283 (.nilFunc) := Zr.mk (by kernel_rfl)
theorem sc283 : Sc Tryd.prog 283 := Sc.mk (by kernel_rfl)
theorem sz284 : Sz Tryd.prog 284 1 := Sz.mk (by kernel_rfl)
theorem by284 : By Tryd.prog 284 8 := By.mk (by kernel_rfl)
theorem zr284 : Zr Tryd.prog 284 (.int .i64 0) := Zr.mk (by kernel_rfl)
theorem sc284 : Sc Tryd.prog 284 := Sc.mk (by kernel_rfl)
theorem sz291 : Sz Tryd.prog 291 1 := Sz.mk (by kernel_rfl)
theorem by291 : By Tryd.prog 291 4 := By.mk (by kernel_rfl)
theorem zr291 : Zr Tryd.prog 291 (.int .u32 0) := Zr.mk (by kernel_rfl)
theorem sc291 : Sc Tryd.prog 291 := Sc.mk (by kernel_rfl)
theorem sz295 : Sz Tryd.prog 295 24 := Sz.mk (by kernel_rfl)
theorem by295 : By Tryd.prog 295 24 := By.mk (by kernel_rfl)
theorem zr295 : Zr Tryd.prog 295 (.agg (Array.replicate 24 (.int .u8 0))) := Zr.mk (by kernel_rfl)
theorem ag295 : Ag Tryd.prog 295 24 := ⟨by kernel_rfl, Sz.mk (by kernel_rfl)⟩
theorem sz308 : Sz Tryd.prog 308 1 := Sz.mk (by kernel_rfl)
theorem by308 : By Tryd.prog 308 8 := By.mk (by kernel_rfl)
theorem zr308 : Zr Tryd.prog 308 (.int .u64 0) := Zr.mk (by kernel_rfl)
theorem sc308 : Sc Tryd.prog 308 := Sc.mk (by kernel_rfl)
theorem sz312 : Sz Tryd.prog 312 1 := Sz.mk (by kernel_rfl)
theorem by312 : By Tryd.prog 312 8 := By.mk (by kernel_rfl)
theorem zr312 : Zr Tryd.prog 312 (.pointer none) := Zr.mk (by kernel_rfl)
theorem sc312 : Sc Tryd.prog 312 := Sc.mk (by kernel_rfl)
theorem sz321 : Sz Tryd.prog 321 20 := Sz.mk (by kernel_rfl)
theorem by321 : By Tryd.prog 321 160 := By.mk (by kernel_rfl)
theorem zr321 : Zr Tryd.prog 321 (.agg (Array.replicate 20 (.int .u64 0))) := Zr.mk (by kernel_rfl)
theorem ag321 : Ag Tryd.prog 321 20 := ⟨by kernel_rfl, Sz.mk (by kernel_rfl)⟩
theorem sz322 : Sz Tryd.prog 322 65 := Sz.mk (by kernel_rfl)
theorem by322 : By Tryd.prog 322 65 := By.mk (by kernel_rfl)
theorem zr322 : Zr Tryd.prog 322 (.agg (Array.replicate 65 (.int .u8 0))) := Zr.mk (by kernel_rfl)
theorem ag322 : Ag Tryd.prog 322 65 := ⟨by kernel_rfl, Sz.mk (by kernel_rfl)⟩
theorem sz329 : Sz Tryd.prog 329 256 := Sz.mk (by kernel_rfl)
theorem by329 : By Tryd.prog 329 256 := By.mk (by kernel_rfl)
theorem zr329 : Zr Tryd.prog 329 (.agg (Array.replicate 256 (.int .u8 0))) := Zr.mk (by kernel_rfl)
theorem ag329 : Ag Tryd.prog 329 256 := ⟨by kernel_rfl, Sz.mk (by kernel_rfl)⟩
theorem sz330 : Sz Tryd.prog 330 2 := Sz.mk (by kernel_rfl)
theorem by330 : By Tryd.prog 330 2 := By.mk (by kernel_rfl)
theorem zr330 : Zr Tryd.prog 330 (.agg #[.int .u8 0, .int .u8 0]) := Zr.mk (by kernel_rfl)
theorem ag330 : Ag Tryd.prog 330 2 := ⟨by kernel_rfl, Sz.mk (by kernel_rfl)⟩
theorem fd330_0 : fdOf Tryd.prog 330 0 = some (0, 5, 1) := by kernel_rfl
theorem fd330_1 : fdOf Tryd.prog 330 1 = some (1, 5, 1) := by kernel_rfl
theorem sz331 : Sz Tryd.prog 331 2 := Sz.mk (by kernel_rfl)
theorem by331 : By Tryd.prog 331 2 := By.mk (by kernel_rfl)
theorem zr331 : Zr Tryd.prog 331 (.agg #[.int .u8 0, .int .u8 0]) := Zr.mk (by kernel_rfl)
theorem ag331 : Ag Tryd.prog 331 2 := ⟨by kernel_rfl, Sz.mk (by kernel_rfl)⟩
theorem fd331_0 : fdOf Tryd.prog 331 0 = some (0, 5, 1) := by kernel_rfl
theorem fd331_1 : fdOf Tryd.prog 331 1 = some (1, 5, 1) := by kernel_rfl
theorem sz332 : Sz Tryd.prog 332 32 := Sz.mk (by kernel_rfl)
theorem by332 : By Tryd.prog 332 32 := By.mk (by kernel_rfl)
theorem zr332 : Zr Tryd.prog 332 (.agg (Array.replicate 32 (.int .u8 0))) := Zr.mk (by kernel_rfl)
theorem ag332 : Ag Tryd.prog 332 32 := ⟨by kernel_rfl, Sz.mk (by kernel_rfl)⟩
theorem sz333 : Sz Tryd.prog 333 1 := Sz.mk (by kernel_rfl)
theorem by333 : By Tryd.prog 333 8 := By.mk (by kernel_rfl)
theorem zr333 : Zr Tryd.prog 333 (.pointer none) := Zr.mk (by kernel_rfl)
theorem sc333 : Sc Tryd.prog 333 := Sc.mk (by kernel_rfl)
theorem sz340 : Sz Tryd.prog 340 32 := Sz.mk (by kernel_rfl)
theorem by340 : By Tryd.prog 340 32 := By.mk (by kernel_rfl)
theorem zr340 : Zr Tryd.prog 340 (.agg (Array.replicate 32 (.int .u8 0))) := Zr.mk (by kernel_rfl)
theorem ag340 : Ag Tryd.prog 340 32 := ⟨by kernel_rfl, Sz.mk (by kernel_rfl)⟩
theorem sz342 : Sz Tryd.prog 342 4 := Sz.mk (by kernel_rfl)
theorem by342 : By Tryd.prog 342 40 := By.mk (by kernel_rfl)
theorem zr342 : Zr Tryd.prog 342 (.agg #[.pointer none, .pointer none, .pointer none, .string ⟨#[]⟩]) := Zr.mk (by kernel_rfl)
theorem ag342 : Ag Tryd.prog 342 4 := ⟨by kernel_rfl, Sz.mk (by kernel_rfl)⟩
theorem fd342_0 : fdOf Tryd.prog 342 0 = some (0, 17, 1) := by kernel_rfl
theorem fd342_1 : fdOf Tryd.prog 342 1 = some (1, 17, 1) := by kernel_rfl
theorem fd342_2 : fdOf Tryd.prog 342 2 = some (2, 17, 1) := by kernel_rfl
theorem fd342_3 : fdOf Tryd.prog 342 3 = some (3, 9, 1) := by kernel_rfl
theorem sz343 : Sz Tryd.prog 343 4 := Sz.mk (by kernel_rfl)
theorem by343 : By Tryd.prog 343 40 := By.mk (by kernel_rfl)
theorem zr343 : Zr Tryd.prog 343 (.agg #[.pointer none, .pointer none, .pointer none, .string ⟨#[]⟩]) := Zr.mk (by kernel_rfl)
theorem ag343 : Ag Tryd.prog 343 4 := ⟨by kernel_rfl, Sz.mk (by kernel_rfl)⟩
theorem fd343_0 : fdOf Tryd.prog 343 0 = some (0, 17, 1) := by kernel_rfl
theorem fd343_1 : fdOf Tryd.prog 343 1 = some (1, 17, 1) := by kernel_rfl
theorem fd343_2 : fdOf Tryd.prog 343 2 = some (2, 17, 1) := by kernel_rfl
theorem fd343_3 : fdOf Tryd.prog 343 3 = some (3, 9, 1) := by kernel_rfl
theorem sz344 : Sz Tryd.prog 344 0 := Sz.mk (by kernel_rfl)
theorem by344 : By Tryd.prog 344 0 := By.mk (by kernel_rfl)
theorem zr344 : Zr Tryd.prog 344 (.agg #[]) := Zr.mk (by kernel_rfl)
theorem ag344 : Ag Tryd.prog 344 0 := ⟨by kernel_rfl, Sz.mk (by kernel_rfl)⟩
theorem sz345 : Sz Tryd.prog 345 0 := Sz.mk (by kernel_rfl)
theorem by345 : By Tryd.prog 345 0 := By.mk (by kernel_rfl)
theorem zr345 : Zr Tryd.prog 345 (.agg #[]) := Zr.mk (by kernel_rfl)
theorem ag345 : Ag Tryd.prog 345 0 := ⟨by kernel_rfl, Sz.mk (by kernel_rfl)⟩
theorem fd345_0 : fdOf Tryd.prog 345 0 = some (0, 344, 0) := by kernel_rfl
theorem sz346 : Sz Tryd.prog 346 0 := Sz.mk (by kernel_rfl)
theorem by346 : By Tryd.prog 346 0 := By.mk (by kernel_rfl)
theorem zr346 : Zr Tryd.prog 346 (.agg #[]) := Zr.mk (by kernel_rfl)
theorem ag346 : Ag Tryd.prog 346 0 := ⟨by kernel_rfl, Sz.mk (by kernel_rfl)⟩
theorem fd346_0 : fdOf Tryd.prog 346 0 = some (0, 344, 0) := by kernel_rfl
theorem sz348 : Sz Tryd.prog 348 1 := Sz.mk (by kernel_rfl)
theorem by348 : By Tryd.prog 348 1 := By.mk (by kernel_rfl)
theorem zr348 : Zr Tryd.prog 348 (.int .u8 0) := Zr.mk (by kernel_rfl)
theorem sc348 : Sc Tryd.prog 348 := Sc.mk (by kernel_rfl)
theorem sz349 : Sz Tryd.prog 349 1 := Sz.mk (by kernel_rfl)
theorem by349 : By Tryd.prog 349 8 := By.mk (by kernel_rfl)
theorem zr349 : Zr Tryd.prog 349 (.nilFunc) := Zr.mk (by kernel_rfl)
theorem sc349 : Sc Tryd.prog 349 := Sc.mk (by kernel_rfl)
theorem sz350 : Sz Tryd.prog 350 1 := Sz.mk (by kernel_rfl)
theorem by350 : By Tryd.prog 350 4 := By.mk (by kernel_rfl)
theorem zr350 : Zr Tryd.prog 350 (.int .i32 0) := Zr.mk (by kernel_rfl)
theorem sc350 : Sc Tryd.prog 350 := Sc.mk (by kernel_rfl)
theorem sz351 : Sz Tryd.prog 351 1 := Sz.mk (by kernel_rfl)
theorem by351 : By Tryd.prog 351 4 := By.mk (by kernel_rfl)
theorem zr351 : Zr Tryd.prog 351 (.int .i32 0) := Zr.mk (by kernel_rfl)
theorem sc351 : Sc Tryd.prog 351 := Sc.mk (by kernel_rfl)
theorem sz352 : Sz Tryd.prog 352 11 := Sz.mk (by kernel_rfl)
theorem by352 : By Tryd.prog 352 48 := By.mk (by kernel_rfl)
theorem zr352 : Zr Tryd.prog 352 (.agg #[.int .u64 0, .int .u64 0, .int .u32 0, .int .u8 0, .int .u8 0, .int .u8 0, .int .u8 0, .nilFunc, .pointer none, .int .i32 0, .int .i32 0]) := Zr.mk (by kernel_rfl)
theorem ag352 : Ag Tryd.prog 352 11 := ⟨by kernel_rfl, Sz.mk (by kernel_rfl)⟩
theorem fd352_0 : fdOf Tryd.prog 352 0 = some (0, 12, 1) := by kernel_rfl
theorem fd352_1 : fdOf Tryd.prog 352 1 = some (1, 12, 1) := by kernel_rfl
theorem fd352_2 : fdOf Tryd.prog 352 2 = some (2, 291, 1) := by kernel_rfl
theorem fd352_3 : fdOf Tryd.prog 352 3 = some (3, 348, 1) := by kernel_rfl
theorem fd352_4 : fdOf Tryd.prog 352 4 = some (4, 5, 1) := by kernel_rfl
theorem fd352_5 : fdOf Tryd.prog 352 5 = some (5, 5, 1) := by kernel_rfl
theorem fd352_6 : fdOf Tryd.prog 352 6 = some (6, 199, 1) := by kernel_rfl
theorem fd352_7 : fdOf Tryd.prog 352 7 = some (7, 349, 1) := by kernel_rfl
theorem fd352_8 : fdOf Tryd.prog 352 8 = some (8, 274, 1) := by kernel_rfl
theorem fd352_9 : fdOf Tryd.prog 352 9 = some (9, 350, 1) := by kernel_rfl
theorem fd352_10 : fdOf Tryd.prog 352 10 = some (10, 351, 1) := by kernel_rfl
theorem sz353 : Sz Tryd.prog 353 11 := Sz.mk (by kernel_rfl)
theorem by353 : By Tryd.prog 353 48 := By.mk (by kernel_rfl)
theorem zr353 : Zr Tryd.prog 353 (.agg #[.int .u64 0, .int .u64 0, .int .u32 0, .int .u8 0, .int .u8 0, .int .u8 0, .int .u8 0, .nilFunc, .pointer none, .int .i32 0, .int .i32 0]) := Zr.mk (by kernel_rfl)
theorem ag353 : Ag Tryd.prog 353 11 := ⟨by kernel_rfl, Sz.mk (by kernel_rfl)⟩
theorem fd353_0 : fdOf Tryd.prog 353 0 = some (0, 12, 1) := by kernel_rfl
theorem fd353_1 : fdOf Tryd.prog 353 1 = some (1, 12, 1) := by kernel_rfl
theorem fd353_2 : fdOf Tryd.prog 353 2 = some (2, 291, 1) := by kernel_rfl
theorem fd353_3 : fdOf Tryd.prog 353 3 = some (3, 348, 1) := by kernel_rfl
theorem fd353_4 : fdOf Tryd.prog 353 4 = some (4, 5, 1) := by kernel_rfl
theorem fd353_5 : fdOf Tryd.prog 353 5 = some (5, 5, 1) := by kernel_rfl
theorem fd353_6 : fdOf Tryd.prog 353 6 = some (6, 199, 1) := by kernel_rfl
theorem fd353_7 : fdOf Tryd.prog 353 7 = some (7, 349, 1) := by kernel_rfl
theorem fd353_8 : fdOf Tryd.prog 353 8 = some (8, 274, 1) := by kernel_rfl
theorem fd353_9 : fdOf Tryd.prog 353 9 = some (9, 350, 1) := by kernel_rfl
theorem fd353_10 : fdOf Tryd.prog 353 10 = some (10, 351, 1) := by kernel_rfl

theorem en3 : Enters Tryd.prog 3 := enters_of Tryd.func3 (by kernel_rfl) rfl
theorem en4 : Enters Tryd.prog 4 := enters_of Tryd.func4 (by kernel_rfl) rfl
theorem en5 : Enters Tryd.prog 5 := enters_of Tryd.func5 (by kernel_rfl) rfl
theorem en6 : Enters Tryd.prog 6 := enters_of Tryd.func6 (by kernel_rfl) rfl
theorem en7 : Enters Tryd.prog 7 := enters_of Tryd.func7 (by kernel_rfl) rfl
theorem en8 : Enters Tryd.prog 8 := enters_of Tryd.func8 (by kernel_rfl) rfl
theorem en9 : Enters Tryd.prog 9 := enters_of Tryd.func9 (by kernel_rfl) rfl
theorem en10 : Enters Tryd.prog 10 := enters_of Tryd.func10 (by kernel_rfl) rfl
theorem en11 : Enters Tryd.prog 11 := enters_of Tryd.func11 (by kernel_rfl) rfl
theorem en12 : Enters Tryd.prog 12 := enters_of Tryd.func12 (by kernel_rfl) rfl
theorem en13 : Enters Tryd.prog 13 := enters_of Tryd.func13 (by kernel_rfl) rfl
theorem en14 : Enters Tryd.prog 14 := enters_of Tryd.func14 (by kernel_rfl) rfl
theorem en15 : Enters Tryd.prog 15 := enters_of Tryd.func15 (by kernel_rfl) rfl
theorem en16 : Enters Tryd.prog 16 := enters_of Tryd.func16 (by kernel_rfl) rfl
theorem en17 : Enters Tryd.prog 17 := enters_of Tryd.func17 (by kernel_rfl) rfl
theorem en18 : Enters Tryd.prog 18 := enters_of Tryd.func18 (by kernel_rfl) rfl
theorem en19 : Enters Tryd.prog 19 := enters_of Tryd.func19 (by kernel_rfl) rfl
theorem en20 : Enters Tryd.prog 20 := enters_of Tryd.func20 (by kernel_rfl) rfl
theorem en21 : Enters Tryd.prog 21 := enters_of Tryd.func21 (by kernel_rfl) rfl
theorem en22 : Enters Tryd.prog 22 := enters_of Tryd.func22 (by kernel_rfl) rfl
theorem en23 : Enters Tryd.prog 23 := enters_of Tryd.func23 (by kernel_rfl) rfl
theorem en24 : Enters Tryd.prog 24 := enters_of Tryd.func24 (by kernel_rfl) rfl
theorem en25 : Enters Tryd.prog 25 := enters_of Tryd.func25 (by kernel_rfl) rfl
theorem en26 : Enters Tryd.prog 26 := enters_of Tryd.func26 (by kernel_rfl) rfl
theorem en27 : Enters Tryd.prog 27 := enters_of Tryd.func27 (by kernel_rfl) rfl
theorem en28 : Enters Tryd.prog 28 := enters_of Tryd.func28 (by kernel_rfl) rfl
theorem en29 : Enters Tryd.prog 29 := enters_of Tryd.func29 (by kernel_rfl) rfl
theorem en30 : Enters Tryd.prog 30 := enters_of Tryd.func30 (by kernel_rfl) rfl
theorem en31 : Enters Tryd.prog 31 := enters_of Tryd.func31 (by kernel_rfl) rfl
theorem en32 : Enters Tryd.prog 32 := enters_of Tryd.func32 (by kernel_rfl) rfl
theorem en33 : Enters Tryd.prog 33 := enters_of Tryd.func33 (by kernel_rfl) rfl
theorem en34 : Enters Tryd.prog 34 := enters_of Tryd.func34 (by kernel_rfl) rfl
theorem en35 : Enters Tryd.prog 35 := enters_of Tryd.func35 (by kernel_rfl) rfl
theorem en36 : Enters Tryd.prog 36 := enters_of Tryd.func36 (by kernel_rfl) rfl
theorem en37 : Enters Tryd.prog 37 := enters_of Tryd.func37 (by kernel_rfl) rfl
theorem en38 : Enters Tryd.prog 38 := enters_of Tryd.func38 (by kernel_rfl) rfl
theorem en39 : Enters Tryd.prog 39 := enters_of Tryd.func39 (by kernel_rfl) rfl
theorem en40 : Enters Tryd.prog 40 := enters_of Tryd.func40 (by kernel_rfl) rfl
theorem en41 : Enters Tryd.prog 41 := enters_of Tryd.func41 (by kernel_rfl) rfl
theorem en42 : Enters Tryd.prog 42 := enters_of Tryd.func42 (by kernel_rfl) rfl
theorem en43 : Enters Tryd.prog 43 := enters_of Tryd.func43 (by kernel_rfl) rfl
theorem en44 : Enters Tryd.prog 44 := enters_of Tryd.func44 (by kernel_rfl) rfl
theorem en45 : Enters Tryd.prog 45 := enters_of Tryd.func45 (by kernel_rfl) rfl
theorem en46 : Enters Tryd.prog 46 := enters_of Tryd.func46 (by kernel_rfl) rfl
theorem en47 : Enters Tryd.prog 47 := enters_of Tryd.func47 (by kernel_rfl) rfl
theorem en48 : Enters Tryd.prog 48 := enters_of Tryd.func48 (by kernel_rfl) rfl
theorem en49 : Enters Tryd.prog 49 := enters_of Tryd.func49 (by kernel_rfl) rfl
theorem en50 : Enters Tryd.prog 50 := enters_of Tryd.func50 (by kernel_rfl) rfl
theorem en51 : Enters Tryd.prog 51 := enters_of Tryd.func51 (by kernel_rfl) rfl
theorem en52 : Enters Tryd.prog 52 := enters_of Tryd.func52 (by kernel_rfl) rfl
theorem en53 : Enters Tryd.prog 53 := enters_of Tryd.func53 (by kernel_rfl) rfl
theorem en54 : Enters Tryd.prog 54 := enters_of Tryd.func54 (by kernel_rfl) rfl
theorem en55 : Enters Tryd.prog 55 := enters_of Tryd.func55 (by kernel_rfl) rfl
theorem en56 : Enters Tryd.prog 56 := enters_of Tryd.func56 (by kernel_rfl) rfl
theorem en57 : Enters Tryd.prog 57 := enters_of Tryd.func57 (by kernel_rfl) rfl
theorem en58 : Enters Tryd.prog 58 := enters_of Tryd.func58 (by kernel_rfl) rfl
theorem en59 : Enters Tryd.prog 59 := enters_of Tryd.func59 (by kernel_rfl) rfl
theorem en60 : Enters Tryd.prog 60 := enters_of Tryd.func60 (by kernel_rfl) rfl
theorem en61 : Enters Tryd.prog 61 := enters_of Tryd.func61 (by kernel_rfl) rfl
theorem en62 : Enters Tryd.prog 62 := enters_of Tryd.func62 (by kernel_rfl) rfl
theorem en63 : Enters Tryd.prog 63 := enters_of Tryd.func63 (by kernel_rfl) rfl
theorem en64 : Enters Tryd.prog 64 := enters_of Tryd.func64 (by kernel_rfl) rfl
theorem en65 : Enters Tryd.prog 65 := enters_of Tryd.func65 (by kernel_rfl) rfl
theorem en66 : Enters Tryd.prog 66 := enters_of Tryd.func66 (by kernel_rfl) rfl
theorem en67 : Enters Tryd.prog 67 := enters_of Tryd.func67 (by kernel_rfl) rfl
theorem en68 : Enters Tryd.prog 68 := enters_of Tryd.func68 (by kernel_rfl) rfl
theorem en69 : Enters Tryd.prog 69 := enters_of Tryd.func69 (by kernel_rfl) rfl
theorem en70 : Enters Tryd.prog 70 := enters_of Tryd.func70 (by kernel_rfl) rfl
theorem en71 : Enters Tryd.prog 71 := enters_of Tryd.func71 (by kernel_rfl) rfl
theorem en72 : Enters Tryd.prog 72 := enters_of Tryd.func72 (by kernel_rfl) rfl
theorem en73 : Enters Tryd.prog 73 := enters_of Tryd.func73 (by kernel_rfl) rfl
theorem en74 : Enters Tryd.prog 74 := enters_of Tryd.func74 (by kernel_rfl) rfl
theorem en75 : Enters Tryd.prog 75 := enters_of Tryd.func75 (by kernel_rfl) rfl
theorem en76 : Enters Tryd.prog 76 := enters_of Tryd.func76 (by kernel_rfl) rfl
theorem en77 : Enters Tryd.prog 77 := enters_of Tryd.func77 (by kernel_rfl) rfl
theorem en78 : Enters Tryd.prog 78 := enters_of Tryd.func78 (by kernel_rfl) rfl
theorem en79 : Enters Tryd.prog 79 := enters_of Tryd.func79 (by kernel_rfl) rfl
theorem en80 : Enters Tryd.prog 80 := enters_of Tryd.func80 (by kernel_rfl) rfl
theorem en81 : Enters Tryd.prog 81 := enters_of Tryd.func81 (by kernel_rfl) rfl
theorem en82 : Enters Tryd.prog 82 := enters_of Tryd.func82 (by kernel_rfl) rfl
theorem en83 : Enters Tryd.prog 83 := enters_of Tryd.func83 (by kernel_rfl) rfl
theorem en84 : Enters Tryd.prog 84 := enters_of Tryd.func84 (by kernel_rfl) rfl
theorem en85 : Enters Tryd.prog 85 := enters_of Tryd.func85 (by kernel_rfl) rfl
theorem en86 : Enters Tryd.prog 86 := enters_of Tryd.func86 (by kernel_rfl) rfl
theorem en87 : Enters Tryd.prog 87 := enters_of Tryd.func87 (by kernel_rfl) rfl
theorem en88 : Enters Tryd.prog 88 := enters_of Tryd.func88 (by kernel_rfl) rfl
theorem en89 : Enters Tryd.prog 89 := enters_of Tryd.func89 (by kernel_rfl) rfl
theorem en90 : Enters Tryd.prog 90 := enters_of Tryd.func90 (by kernel_rfl) rfl
theorem en91 : Enters Tryd.prog 91 := enters_of Tryd.func91 (by kernel_rfl) rfl
theorem en92 : Enters Tryd.prog 92 := enters_of Tryd.func92 (by kernel_rfl) rfl
theorem en93 : Enters Tryd.prog 93 := enters_of Tryd.func93 (by kernel_rfl) rfl
theorem en94 : Enters Tryd.prog 94 := enters_of Tryd.func94 (by kernel_rfl) rfl
theorem en95 : Enters Tryd.prog 95 := enters_of Tryd.func95 (by kernel_rfl) rfl
theorem en96 : Enters Tryd.prog 96 := enters_of Tryd.func96 (by kernel_rfl) rfl
theorem en97 : Enters Tryd.prog 97 := enters_of Tryd.func97 (by kernel_rfl) rfl
theorem en98 : Enters Tryd.prog 98 := enters_of Tryd.func98 (by kernel_rfl) rfl
theorem en99 : Enters Tryd.prog 99 := enters_of Tryd.func99 (by kernel_rfl) rfl
theorem en100 : Enters Tryd.prog 100 := enters_of Tryd.func100 (by kernel_rfl) rfl
theorem en101 : Enters Tryd.prog 101 := enters_of Tryd.func101 (by kernel_rfl) rfl
theorem en102 : Enters Tryd.prog 102 := enters_of Tryd.func102 (by kernel_rfl) rfl
theorem en103 : Enters Tryd.prog 103 := enters_of Tryd.func103 (by kernel_rfl) rfl
theorem en104 : Enters Tryd.prog 104 := enters_of Tryd.func104 (by kernel_rfl) rfl
theorem en105 : Enters Tryd.prog 105 := enters_of Tryd.func105 (by kernel_rfl) rfl
theorem en106 : Enters Tryd.prog 106 := enters_of Tryd.func106 (by kernel_rfl) rfl
theorem en107 : Enters Tryd.prog 107 := enters_of Tryd.func107 (by kernel_rfl) rfl
theorem en108 : Enters Tryd.prog 108 := enters_of Tryd.func108 (by kernel_rfl) rfl
theorem en109 : Enters Tryd.prog 109 := enters_of Tryd.func109 (by kernel_rfl) rfl
theorem en110 : Enters Tryd.prog 110 := enters_of Tryd.func110 (by kernel_rfl) rfl
theorem en111 : Enters Tryd.prog 111 := enters_of Tryd.func111 (by kernel_rfl) rfl
theorem en112 : Enters Tryd.prog 112 := enters_of Tryd.func112 (by kernel_rfl) rfl
theorem en114 : Enters Tryd.prog 114 := enters_of Tryd.func114 (by kernel_rfl) rfl
theorem en115 : Enters Tryd.prog 115 := enters_of Tryd.func115 (by kernel_rfl) rfl
theorem en116 : Enters Tryd.prog 116 := enters_of Tryd.func116 (by kernel_rfl) rfl
theorem en117 : Enters Tryd.prog 117 := enters_of Tryd.func117 (by kernel_rfl) rfl
theorem en118 : Enters Tryd.prog 118 := enters_of Tryd.func118 (by kernel_rfl) rfl
theorem en119 : Enters Tryd.prog 119 := enters_of Tryd.func119 (by kernel_rfl) rfl
theorem en120 : Enters Tryd.prog 120 := enters_of Tryd.func120 (by kernel_rfl) rfl
theorem en121 : Enters Tryd.prog 121 := enters_of Tryd.func121 (by kernel_rfl) rfl
theorem en122 : Enters Tryd.prog 122 := enters_of Tryd.func122 (by kernel_rfl) rfl
theorem en123 : Enters Tryd.prog 123 := enters_of Tryd.func123 (by kernel_rfl) rfl
theorem en124 : Enters Tryd.prog 124 := enters_of Tryd.func124 (by kernel_rfl) rfl
theorem en128 : Enters Tryd.prog 128 := enters_of Tryd.func128 (by kernel_rfl) rfl
theorem en129 : Enters Tryd.prog 129 := enters_of Tryd.func129 (by kernel_rfl) rfl
theorem en130 : Enters Tryd.prog 130 := enters_of Tryd.func130 (by kernel_rfl) rfl
theorem en131 : Enters Tryd.prog 131 := enters_of Tryd.func131 (by kernel_rfl) rfl
theorem en132 : Enters Tryd.prog 132 := enters_of Tryd.func132 (by kernel_rfl) rfl
theorem en133 : Enters Tryd.prog 133 := enters_of Tryd.func133 (by kernel_rfl) rfl
theorem en134 : Enters Tryd.prog 134 := enters_of Tryd.func134 (by kernel_rfl) rfl
theorem en135 : Enters Tryd.prog 135 := enters_of Tryd.func135 (by kernel_rfl) rfl
theorem en136 : Enters Tryd.prog 136 := enters_of Tryd.func136 (by kernel_rfl) rfl
theorem en137 : Enters Tryd.prog 137 := enters_of Tryd.func137 (by kernel_rfl) rfl
theorem en138 : Enters Tryd.prog 138 := enters_of Tryd.func138 (by kernel_rfl) rfl
theorem en139 : Enters Tryd.prog 139 := enters_of Tryd.func139 (by kernel_rfl) rfl
theorem en140 : Enters Tryd.prog 140 := enters_of Tryd.func140 (by kernel_rfl) rfl
theorem en141 : Enters Tryd.prog 141 := enters_of Tryd.func141 (by kernel_rfl) rfl
theorem en142 : Enters Tryd.prog 142 := enters_of Tryd.func142 (by kernel_rfl) rfl
theorem en143 : Enters Tryd.prog 143 := enters_of Tryd.func143 (by kernel_rfl) rfl
theorem en144 : Enters Tryd.prog 144 := enters_of Tryd.func144 (by kernel_rfl) rfl
theorem en145 : Enters Tryd.prog 145 := enters_of Tryd.func145 (by kernel_rfl) rfl
theorem en146 : Enters Tryd.prog 146 := enters_of Tryd.func146 (by kernel_rfl) rfl
theorem en147 : Enters Tryd.prog 147 := enters_of Tryd.func147 (by kernel_rfl) rfl
theorem en148 : Enters Tryd.prog 148 := enters_of Tryd.func148 (by kernel_rfl) rfl
theorem en149 : Enters Tryd.prog 149 := enters_of Tryd.func149 (by kernel_rfl) rfl
theorem en150 : Enters Tryd.prog 150 := enters_of Tryd.func150 (by kernel_rfl) rfl
theorem en151 : Enters Tryd.prog 151 := enters_of Tryd.func151 (by kernel_rfl) rfl
theorem en152 : Enters Tryd.prog 152 := enters_of Tryd.func152 (by kernel_rfl) rfl
theorem en153 : Enters Tryd.prog 153 := enters_of Tryd.func153 (by kernel_rfl) rfl
theorem en154 : Enters Tryd.prog 154 := enters_of Tryd.func154 (by kernel_rfl) rfl
theorem en155 : Enters Tryd.prog 155 := enters_of Tryd.func155 (by kernel_rfl) rfl
theorem en156 : Enters Tryd.prog 156 := enters_of Tryd.func156 (by kernel_rfl) rfl
theorem en157 : Enters Tryd.prog 157 := enters_of Tryd.func157 (by kernel_rfl) rfl
theorem en158 : Enters Tryd.prog 158 := enters_of Tryd.func158 (by kernel_rfl) rfl
theorem en159 : Enters Tryd.prog 159 := enters_of Tryd.func159 (by kernel_rfl) rfl
theorem en160 : Enters Tryd.prog 160 := enters_of Tryd.func160 (by kernel_rfl) rfl
theorem en161 : Enters Tryd.prog 161 := enters_of Tryd.func161 (by kernel_rfl) rfl
theorem en162 : Enters Tryd.prog 162 := enters_of Tryd.func162 (by kernel_rfl) rfl
theorem en163 : Enters Tryd.prog 163 := enters_of Tryd.func163 (by kernel_rfl) rfl
theorem en164 : Enters Tryd.prog 164 := enters_of Tryd.func164 (by kernel_rfl) rfl
theorem en165 : Enters Tryd.prog 165 := enters_of Tryd.func165 (by kernel_rfl) rfl
theorem en166 : Enters Tryd.prog 166 := enters_of Tryd.func166 (by kernel_rfl) rfl
theorem en167 : Enters Tryd.prog 167 := enters_of Tryd.func167 (by kernel_rfl) rfl
theorem en168 : Enters Tryd.prog 168 := enters_of Tryd.func168 (by kernel_rfl) rfl
theorem en169 : Enters Tryd.prog 169 := enters_of Tryd.func169 (by kernel_rfl) rfl
theorem en170 : Enters Tryd.prog 170 := enters_of Tryd.func170 (by kernel_rfl) rfl
theorem en171 : Enters Tryd.prog 171 := enters_of Tryd.func171 (by kernel_rfl) rfl
theorem en172 : Enters Tryd.prog 172 := enters_of Tryd.func172 (by kernel_rfl) rfl
theorem en173 : Enters Tryd.prog 173 := enters_of Tryd.func173 (by kernel_rfl) rfl
theorem en174 : Enters Tryd.prog 174 := enters_of Tryd.func174 (by kernel_rfl) rfl
theorem en175 : Enters Tryd.prog 175 := enters_of Tryd.func175 (by kernel_rfl) rfl
theorem en176 : Enters Tryd.prog 176 := enters_of Tryd.func176 (by kernel_rfl) rfl
theorem en177 : Enters Tryd.prog 177 := enters_of Tryd.func177 (by kernel_rfl) rfl
theorem en180 : Enters Tryd.prog 180 := enters_of Tryd.func180 (by kernel_rfl) rfl
theorem en181 : Enters Tryd.prog 181 := enters_of Tryd.func181 (by kernel_rfl) rfl
theorem en182 : Enters Tryd.prog 182 := enters_of Tryd.func182 (by kernel_rfl) rfl
theorem en183 : Enters Tryd.prog 183 := enters_of Tryd.func183 (by kernel_rfl) rfl
theorem en184 : Enters Tryd.prog 184 := enters_of Tryd.func184 (by kernel_rfl) rfl
theorem en185 : Enters Tryd.prog 185 := enters_of Tryd.func185 (by kernel_rfl) rfl
theorem en186 : Enters Tryd.prog 186 := enters_of Tryd.func186 (by kernel_rfl) rfl
theorem en187 : Enters Tryd.prog 187 := enters_of Tryd.func187 (by kernel_rfl) rfl
theorem en188 : Enters Tryd.prog 188 := enters_of Tryd.func188 (by kernel_rfl) rfl
theorem en189 : Enters Tryd.prog 189 := enters_of Tryd.func189 (by kernel_rfl) rfl
theorem en190 : Enters Tryd.prog 190 := enters_of Tryd.func190 (by kernel_rfl) rfl
theorem en191 : Enters Tryd.prog 191 := enters_of Tryd.func191 (by kernel_rfl) rfl
theorem en192 : Enters Tryd.prog 192 := enters_of Tryd.func192 (by kernel_rfl) rfl
theorem en193 : Enters Tryd.prog 193 := enters_of Tryd.func193 (by kernel_rfl) rfl
theorem en194 : Enters Tryd.prog 194 := enters_of Tryd.func194 (by kernel_rfl) rfl
theorem en195 : Enters Tryd.prog 195 := enters_of Tryd.func195 (by kernel_rfl) rfl
theorem en196 : Enters Tryd.prog 196 := enters_of Tryd.func196 (by kernel_rfl) rfl
theorem en197 : Enters Tryd.prog 197 := enters_of Tryd.func197 (by kernel_rfl) rfl
theorem en198 : Enters Tryd.prog 198 := enters_of Tryd.func198 (by kernel_rfl) rfl
theorem en199 : Enters Tryd.prog 199 := enters_of Tryd.func199 (by kernel_rfl) rfl
theorem en200 : Enters Tryd.prog 200 := enters_of Tryd.func200 (by kernel_rfl) rfl
theorem en201 : Enters Tryd.prog 201 := enters_of Tryd.func201 (by kernel_rfl) rfl
theorem en202 : Enters Tryd.prog 202 := enters_of Tryd.func202 (by kernel_rfl) rfl
theorem en203 : Enters Tryd.prog 203 := enters_of Tryd.func203 (by kernel_rfl) rfl
theorem en204 : Enters Tryd.prog 204 := enters_of Tryd.func204 (by kernel_rfl) rfl
theorem en205 : Enters Tryd.prog 205 := enters_of Tryd.func205 (by kernel_rfl) rfl
theorem en206 : Enters Tryd.prog 206 := enters_of Tryd.func206 (by kernel_rfl) rfl
theorem en207 : Enters Tryd.prog 207 := enters_of Tryd.func207 (by kernel_rfl) rfl
theorem en208 : Enters Tryd.prog 208 := enters_of Tryd.func208 (by kernel_rfl) rfl
theorem en209 : Enters Tryd.prog 209 := enters_of Tryd.func209 (by kernel_rfl) rfl
theorem en210 : Enters Tryd.prog 210 := enters_of Tryd.func210 (by kernel_rfl) rfl
theorem en211 : Enters Tryd.prog 211 := enters_of Tryd.func211 (by kernel_rfl) rfl
theorem en212 : Enters Tryd.prog 212 := enters_of Tryd.func212 (by kernel_rfl) rfl
theorem en213 : Enters Tryd.prog 213 := enters_of Tryd.func213 (by kernel_rfl) rfl
theorem en214 : Enters Tryd.prog 214 := enters_of Tryd.func214 (by kernel_rfl) rfl
theorem en215 : Enters Tryd.prog 215 := enters_of Tryd.func215 (by kernel_rfl) rfl
theorem en218 : Enters Tryd.prog 218 := enters_of Tryd.func218 (by kernel_rfl) rfl
theorem en220 : Enters Tryd.prog 220 := enters_of Tryd.func220 (by kernel_rfl) rfl
theorem en221 : Enters Tryd.prog 221 := enters_of Tryd.func221 (by kernel_rfl) rfl
theorem en222 : Enters Tryd.prog 222 := enters_of Tryd.func222 (by kernel_rfl) rfl
theorem en223 : Enters Tryd.prog 223 := enters_of Tryd.func223 (by kernel_rfl) rfl
theorem en224 : Enters Tryd.prog 224 := enters_of Tryd.func224 (by kernel_rfl) rfl
theorem en225 : Enters Tryd.prog 225 := enters_of Tryd.func225 (by kernel_rfl) rfl
theorem en226 : Enters Tryd.prog 226 := enters_of Tryd.func226 (by kernel_rfl) rfl
theorem en227 : Enters Tryd.prog 227 := enters_of Tryd.func227 (by kernel_rfl) rfl
theorem en228 : Enters Tryd.prog 228 := enters_of Tryd.func228 (by kernel_rfl) rfl
theorem en229 : Enters Tryd.prog 229 := enters_of Tryd.func229 (by kernel_rfl) rfl
theorem en230 : Enters Tryd.prog 230 := enters_of Tryd.func230 (by kernel_rfl) rfl
theorem en231 : Enters Tryd.prog 231 := enters_of Tryd.func231 (by kernel_rfl) rfl
theorem en232 : Enters Tryd.prog 232 := enters_of Tryd.func232 (by kernel_rfl) rfl
theorem en233 : Enters Tryd.prog 233 := enters_of Tryd.func233 (by kernel_rfl) rfl
theorem en234 : Enters Tryd.prog 234 := enters_of Tryd.func234 (by kernel_rfl) rfl
theorem en235 : Enters Tryd.prog 235 := enters_of Tryd.func235 (by kernel_rfl) rfl
theorem en236 : Enters Tryd.prog 236 := enters_of Tryd.func236 (by kernel_rfl) rfl
theorem en237 : Enters Tryd.prog 237 := enters_of Tryd.func237 (by kernel_rfl) rfl
theorem en238 : Enters Tryd.prog 238 := enters_of Tryd.func238 (by kernel_rfl) rfl
theorem en239 : Enters Tryd.prog 239 := enters_of Tryd.func239 (by kernel_rfl) rfl
theorem en241 : Enters Tryd.prog 241 := enters_of Tryd.func241 (by kernel_rfl) rfl
theorem en242 : Enters Tryd.prog 242 := enters_of Tryd.func242 (by kernel_rfl) rfl
theorem en243 : Enters Tryd.prog 243 := enters_of Tryd.func243 (by kernel_rfl) rfl
theorem en244 : Enters Tryd.prog 244 := enters_of Tryd.func244 (by kernel_rfl) rfl
theorem en245 : Enters Tryd.prog 245 := enters_of Tryd.func245 (by kernel_rfl) rfl
theorem en246 : Enters Tryd.prog 246 := enters_of Tryd.func246 (by kernel_rfl) rfl
theorem en247 : Enters Tryd.prog 247 := enters_of Tryd.func247 (by kernel_rfl) rfl
theorem en248 : Enters Tryd.prog 248 := enters_of Tryd.func248 (by kernel_rfl) rfl
theorem en249 : Enters Tryd.prog 249 := enters_of Tryd.func249 (by kernel_rfl) rfl
theorem en251 : Enters Tryd.prog 251 := enters_of Tryd.func251 (by kernel_rfl) rfl
theorem en252 : Enters Tryd.prog 252 := enters_of Tryd.func252 (by kernel_rfl) rfl
theorem en254 : Enters Tryd.prog 254 := enters_of Tryd.func254 (by kernel_rfl) rfl
theorem en255 : Enters Tryd.prog 255 := enters_of Tryd.func255 (by kernel_rfl) rfl
theorem en256 : Enters Tryd.prog 256 := enters_of Tryd.func256 (by kernel_rfl) rfl
theorem en257 : Enters Tryd.prog 257 := enters_of Tryd.func257 (by kernel_rfl) rfl
theorem en258 : Enters Tryd.prog 258 := enters_of Tryd.func258 (by kernel_rfl) rfl
theorem en259 : Enters Tryd.prog 259 := enters_of Tryd.func259 (by kernel_rfl) rfl
theorem en260 : Enters Tryd.prog 260 := enters_of Tryd.func260 (by kernel_rfl) rfl
theorem en261 : Enters Tryd.prog 261 := enters_of Tryd.func261 (by kernel_rfl) rfl
theorem en262 : Enters Tryd.prog 262 := enters_of Tryd.func262 (by kernel_rfl) rfl
theorem en263 : Enters Tryd.prog 263 := enters_of Tryd.func263 (by kernel_rfl) rfl
theorem en264 : Enters Tryd.prog 264 := enters_of Tryd.func264 (by kernel_rfl) rfl
theorem mixed : Tryd.prog.follows .mixedOrders = true := by kernel_rfl
end T
end Go.Proofs.YtligejpfbcdpmaaDoor
