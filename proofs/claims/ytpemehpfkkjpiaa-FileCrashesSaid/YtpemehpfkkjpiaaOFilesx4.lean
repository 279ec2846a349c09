/-
  Walks of the functions that the law reaches: contracts of our own. Lines began as the kit's print; what it lacks is laid by our ownwalk.py.
-/
import Derived.Test.YtpemehpfkkjpiaaOFilesx0
import Derived.Test.YtpemehpfkkjpiaaOFilesx1
import Derived.Test.YtpemehpfkkjpiaaOFilesx2
import Derived.Test.YtpemehpfkkjpiaaOFilesx3
namespace Go.Proofs.Ytpemehpfkkjpiaa.OFiles
open Go.RowKit Go.Proofs.YtpemehpfkkjpiaaW.PrintWords Go.Proofs.YtpemehpfkkjpiaaW.PrintLast Go.Proofs.YtpemehpfkkjpiaaW.PrintMore
attribute [local go_sem] max2_int min2_int max_two min_two max_three min_three max_four min_four   -- for this text's walks alone
set_option linter.unusedVariables false
set_option linter.unusedSimpArgs false

attribute [local go_sem high] eqA23
/-! ### amanuensislaw12_step: function 29 -/
mutual
def amanuensislaw12_step.j2 : Nat → Bool → Int → Int → ByteArray → ByteArray → Int → ByteArray → ByteArray → Int → ByteArray → ByteArray → Int → Option (ByteArray × ByteArray × Int × Bool)
  | 0, _, _, _, _, _, _, _, _, _, _, _, _ => none
  | k + 1, x6, x7, x10, x160000, x160001, x160002, x164000, x164001, x164002, x165000, x165001, x165002 => (file_Free.f x160000 x160001 x160002).bind fun bt190 => (if x6 = true then ((amanuensisref9_Free.f x160000 x160001 x160002).bind fun t192 => (amanuensislaw12_step.j3 k x6 x7 x10 bt190.1 bt190.2 0 t192 x160000 x160001 x160002 x164000 x164001 x164002 x165000 x165001 x165002)) else (amanuensislaw12_step.j3 k x6 x7 x10 bt190.1 bt190.2 1 0 x160000 x160001 x160002 x164000 x164001 x164002 x165000 x165001 x165002))
def amanuensislaw12_step.j3 : Nat → Bool → Int → Int → Int → Int → Int → Int → ByteArray → ByteArray → Int → ByteArray → ByteArray → Int → ByteArray → ByteArray → Int → Option (ByteArray × ByteArray × Int × Bool)
  | 0, _, _, _, _, _, _, _, _, _, _, _, _, _, _, _, _ => none
  | k + 1, x6, x7, x10, x11, x12, x13, x14, x160000, x160001, x160002, x164000, x164001, x164002, x165000, x165001, x165002 => (amanuensislaw12_num.f x10).bind fun t193 => (if t193 = x7 then (if (!(x164000.toList == x165000.toList) || (!(x164001.toList == x165001.toList) || (!(x164002 == x165002)))) = true then (amanuensislaw12_step.j4 k x7 true x160000 x160001 x160002 x165000 x165001 x165002) else ((file_Check.f x160000 x160001 x160002).bind fun t194 => ((amanuensislaw12_num.f t194).bind fun t195 => (if ((t195 == 0) != x6) = true then (amanuensislaw12_step.j4 k x7 true x160000 x160001 x160002 x165000 x165001 x165002) else ((amanuensislaw12_num.f x12).bind fun t196 => (if t196 = x13 then (amanuensislaw12_step.j4 k x7 (x11 != x14) x160000 x160001 x160002 x165000 x165001 x165002) else (amanuensislaw12_step.j4 k x7 true x160000 x160001 x160002 x165000 x165001 x165002))))))) else (amanuensislaw12_step.j4 k x7 true x160000 x160001 x160002 x165000 x165001 x165002))
def amanuensislaw12_step.j4 : Nat → Int → Bool → ByteArray → ByteArray → Int → ByteArray → ByteArray → Int → Option (ByteArray × ByteArray × Int × Bool)
  | 0, _, _, _, _, _, _, _, _ => none
  | k + 1, x7, x133, x160000, x160001, x160002, x165000, x165001, x165002 => if x133 = true then (some (x160000, x160001, x160002, false)) else (if x7 = 0 then (some (x165000, x165001, x165002, true)) else (some (x160000, x160001, x160002, true)))
def amanuensislaw12_step.j0 : Nat → Bool → Int → Int → Bool → ByteArray → ByteArray → Int → Int → Int → ByteArray → ByteArray → ByteArray → Int → Option (ByteArray × ByteArray × Int × Bool)
  | 0, _, _, _, _, _, _, _, _, _, _, _, _, _ => none
  | k + 1, x6, x7, x19, x44, x160000, x160001, x160002, x161000, x161001, x161002, x165000, x165001, x165002 => if x44 = true then ((file_Sync.f x160000 x160001 x160002).bind fun bt166 => (if x6 = true then ((amanuensisref9_Sync.f x160000 x160001 x160002).bind fun bt170 => (amanuensislaw12_step.j2 k x6 0 bt166.2.2.2 x160000 x160001 x160002 bt166.1 bt166.2.1 bt166.2.2.1 bt170.1 bt170.2.1 bt170.2.2)) else (amanuensislaw12_step.j2 k x6 x7 bt166.2.2.2 x160000 x160001 x160002 bt166.1 bt166.2.1 bt166.2.2.1 x165000 x165001 x165002))) else (if x19 = 5 then ((file_Crash.f x160000 x160001 x160002 x161001).bind fun bt173 => (if x6 = true then ((amanuensisref9_Crash.f x160000 x160001 x160002 x161001).bind fun bt177 => (amanuensislaw12_step.j2 k x6 0 bt173.2.2.2 x160000 x160001 x160002 bt173.1 bt173.2.1 bt173.2.2.1 bt177.1 bt177.2.1 bt177.2.2)) else (amanuensislaw12_step.j2 k x6 x7 bt173.2.2.2 x160000 x160001 x160002 bt173.1 bt173.2.1 bt173.2.2.1 x165000 x165001 x165002))) else (if x19 = 6 then ((file_Cut.f k x160000 x160001 x160002 x161001).bind fun bt180 => (if x6 = true then ((amanuensisref0_Num.f x161001 (x160000.size : Int)).bind fun t184 => (amanuensislaw12_step.j1 k x6 x7 bt180.2.2.2 t184 x160000 x160001 x160002 x161000 x161001 x161002 bt180.1 bt180.2.1 bt180.2.2.1 x165000 x165001 x165002)) else (amanuensislaw12_step.j1 k x6 x7 bt180.2.2.2 false x160000 x160001 x160002 x161000 x161001 x161002 bt180.1 bt180.2.1 bt180.2.2.1 x165000 x165001 x165002))) else ((file_Append.f x160000 x160001 x160002 x161002).bind fun bt185 => (if x6 = true then ((amanuensisref9_Free.f x160000 x160001 x160002).bind fun t189 => (if (x161002.size : Int) ≤ t189 then (if x160001.size + x161002.size ≤ 9223372036854775807 then (amanuensislaw12_step.j2 k x6 0 bt185.2.2.2 x160000 x160001 x160002 bt185.1 bt185.2.1 bt185.2.2.1 x160000 (x160001 ++ x161002) x160002) else (none)) else (amanuensislaw12_step.j2 k x6 7 bt185.2.2.2 x160000 x160001 x160002 bt185.1 bt185.2.1 bt185.2.2.1 x165000 x165001 x165002))) else (amanuensislaw12_step.j2 k x6 x7 bt185.2.2.2 x160000 x160001 x160002 bt185.1 bt185.2.1 bt185.2.2.1 x165000 x165001 x165002)))))
def amanuensislaw12_step.j1 : Nat → Bool → Int → Int → Bool → ByteArray → ByteArray → Int → Int → Int → ByteArray → ByteArray → ByteArray → Int → ByteArray → ByteArray → Int → Option (ByteArray × ByteArray × Int × Bool)
  | 0, _, _, _, _, _, _, _, _, _, _, _, _, _, _, _, _ => none
  | k + 1, x6, x7, x10, x86, x160000, x160001, x160002, x161000, x161001, x161002, x164000, x164001, x164002, x165000, x165001, x165002 => if x86 = true then (if x160001.toList = ([] : List UInt8) then (if 0 ≤ x161001 then (if x161001 ≤ (x160000.size : Int) then (amanuensislaw12_step.j2 k x6 0 x10 x160000 x160001 x160002 x164000 x164001 x164002 (x160000.extract 0 (x161001 : Int).toNat) (⟨#[]⟩ : ByteArray) x160002) else (none)) else (none)) else (amanuensislaw12_step.j2 k x6 9 x10 x160000 x160001 x160002 x164000 x164001 x164002 x165000 x165001 x165002)) else (amanuensislaw12_step.j2 k x6 x7 x10 x160000 x160001 x160002 x164000 x164001 x164002 x165000 x165001 x165002)
end
def amanuensislaw12_step.f (k : Nat) (a0_0 : ByteArray) (a0_1 : ByteArray) (a0_2 : Int) (a1_0 : Int) (a1_1 : Int) (a1_2 : ByteArray) : Option (ByteArray × ByteArray × Int × Bool) := (amanuensisref9_File.f a0_0 a0_1 a0_2).bind fun t162 => ((amanuensislaw0_Within.f a1_0 7).bind fun t165 => (if t165 = 3 then (amanuensislaw12_step.j0 k t162 1 t165 (t165 == 3) a0_0 a0_1 a0_2 a1_0 a1_1 a1_2 (⟨#[]⟩ : ByteArray) (⟨#[]⟩ : ByteArray) 0) else (amanuensislaw12_step.j0 k t162 1 t165 (t165 == 4) a0_0 a0_1 a0_2 a1_0 a1_1 a1_2 (⟨#[]⟩ : ByteArray) (⟨#[]⟩ : ByteArray) 0)))
theorem amanuensislaw12_step.mono_l : ∀ k, (∀ y0 y1 y2 y3 y4 y5 y6 y7 y8 y9 y10 y11, LeO (amanuensislaw12_step.j2 k y0 y1 y2 y3 y4 y5 y6 y7 y8 y9 y10 y11) (amanuensislaw12_step.j2 (k + 1) y0 y1 y2 y3 y4 y5 y6 y7 y8 y9 y10 y11)) ∧ (∀ y0 y1 y2 y3 y4 y5 y6 y7 y8 y9 y10 y11 y12 y13 y14 y15, LeO (amanuensislaw12_step.j3 k y0 y1 y2 y3 y4 y5 y6 y7 y8 y9 y10 y11 y12 y13 y14 y15) (amanuensislaw12_step.j3 (k + 1) y0 y1 y2 y3 y4 y5 y6 y7 y8 y9 y10 y11 y12 y13 y14 y15)) ∧ (∀ y0 y1 y2 y3 y4 y5 y6 y7, LeO (amanuensislaw12_step.j4 k y0 y1 y2 y3 y4 y5 y6 y7) (amanuensislaw12_step.j4 (k + 1) y0 y1 y2 y3 y4 y5 y6 y7)) ∧ (∀ y0 y1 y2 y3 y4 y5 y6 y7 y8 y9 y10 y11 y12, LeO (amanuensislaw12_step.j0 k y0 y1 y2 y3 y4 y5 y6 y7 y8 y9 y10 y11 y12) (amanuensislaw12_step.j0 (k + 1) y0 y1 y2 y3 y4 y5 y6 y7 y8 y9 y10 y11 y12)) ∧ (∀ y0 y1 y2 y3 y4 y5 y6 y7 y8 y9 y10 y11 y12 y13 y14 y15, LeO (amanuensislaw12_step.j1 k y0 y1 y2 y3 y4 y5 y6 y7 y8 y9 y10 y11 y12 y13 y14 y15) (amanuensislaw12_step.j1 (k + 1) y0 y1 y2 y3 y4 y5 y6 y7 y8 y9 y10 y11 y12 y13 y14 y15))
  | 0 => ⟨fun _ _ _ _ _ _ _ _ _ _ _ _ r h => by simp [amanuensislaw12_step.j2] at h, fun _ _ _ _ _ _ _ _ _ _ _ _ _ _ _ _ r h => by simp [amanuensislaw12_step.j3] at h, fun _ _ _ _ _ _ _ _ r h => by simp [amanuensislaw12_step.j4] at h, fun _ _ _ _ _ _ _ _ _ _ _ _ _ r h => by simp [amanuensislaw12_step.j0] at h, fun _ _ _ _ _ _ _ _ _ _ _ _ _ _ _ _ r h => by simp [amanuensislaw12_step.j1] at h⟩
  | k + 1 => by
    obtain ⟨ih0, ih1, ih2, ih3, ih4⟩ := amanuensislaw12_step.mono_l k
    refine ⟨?_, ?_, ?_, ?_, ?_⟩
    · intro y0 y1 y2 y3 y4 y5 y6 y7 y8 y9 y10 y11
      unfold amanuensislaw12_step.j2
      repeat' first
      | (with_reducible exact ih0 _ _ _ _ _ _ _ _ _ _ _ _)
      | (with_reducible exact ih1 _ _ _ _ _ _ _ _ _ _ _ _ _ _ _ _)
      | (with_reducible exact ih2 _ _ _ _ _ _ _ _)
      | (with_reducible exact ih3 _ _ _ _ _ _ _ _ _ _ _ _ _)
      | (with_reducible exact ih4 _ _ _ _ _ _ _ _ _ _ _ _ _ _ _ _)
      | (with_reducible exact file_Cut.mono _ _ _ _ _)
      | (with_reducible exact LeO.refl _)
      | (with_reducible exact LeO.none _)
      | (with_reducible refine LeO.ite ?_ ?_)
      | (with_reducible refine LeO.bind ?_ (fun _ => ?_))
      | exact ih0 _ _ _ _ _ _ _ _ _ _ _ _
      | exact ih1 _ _ _ _ _ _ _ _ _ _ _ _ _ _ _ _
      | exact ih2 _ _ _ _ _ _ _ _
      | exact ih3 _ _ _ _ _ _ _ _ _ _ _ _ _
      | exact ih4 _ _ _ _ _ _ _ _ _ _ _ _ _ _ _ _
      | exact file_Cut.mono _ _ _ _ _
      | exact LeO.none _
      | refine LeO.ite ?_ ?_
      | refine LeO.bind ?_ (fun _ => ?_)
    · intro y0 y1 y2 y3 y4 y5 y6 y7 y8 y9 y10 y11 y12 y13 y14 y15
      unfold amanuensislaw12_step.j3
      repeat' first
      | (with_reducible exact ih0 _ _ _ _ _ _ _ _ _ _ _ _)
      | (with_reducible exact ih1 _ _ _ _ _ _ _ _ _ _ _ _ _ _ _ _)
      | (with_reducible exact ih2 _ _ _ _ _ _ _ _)
      | (with_reducible exact ih3 _ _ _ _ _ _ _ _ _ _ _ _ _)
      | (with_reducible exact ih4 _ _ _ _ _ _ _ _ _ _ _ _ _ _ _ _)
      | (with_reducible exact file_Cut.mono _ _ _ _ _)
      | (with_reducible exact LeO.refl _)
      | (with_reducible exact LeO.none _)
      | (with_reducible refine LeO.ite ?_ ?_)
      | (with_reducible refine LeO.bind ?_ (fun _ => ?_))
      | exact ih0 _ _ _ _ _ _ _ _ _ _ _ _
      | exact ih1 _ _ _ _ _ _ _ _ _ _ _ _ _ _ _ _
      | exact ih2 _ _ _ _ _ _ _ _
      | exact ih3 _ _ _ _ _ _ _ _ _ _ _ _ _
      | exact ih4 _ _ _ _ _ _ _ _ _ _ _ _ _ _ _ _
      | exact file_Cut.mono _ _ _ _ _
      | exact LeO.none _
      | refine LeO.ite ?_ ?_
      | refine LeO.bind ?_ (fun _ => ?_)
    · intro y0 y1 y2 y3 y4 y5 y6 y7
      unfold amanuensislaw12_step.j4
      repeat' first
      | (with_reducible exact ih0 _ _ _ _ _ _ _ _ _ _ _ _)
      | (with_reducible exact ih1 _ _ _ _ _ _ _ _ _ _ _ _ _ _ _ _)
      | (with_reducible exact ih2 _ _ _ _ _ _ _ _)
      | (with_reducible exact ih3 _ _ _ _ _ _ _ _ _ _ _ _ _)
      | (with_reducible exact ih4 _ _ _ _ _ _ _ _ _ _ _ _ _ _ _ _)
      | (with_reducible exact file_Cut.mono _ _ _ _ _)
      | (with_reducible exact LeO.refl _)
      | (with_reducible exact LeO.none _)
      | (with_reducible refine LeO.ite ?_ ?_)
      | (with_reducible refine LeO.bind ?_ (fun _ => ?_))
      | exact ih0 _ _ _ _ _ _ _ _ _ _ _ _
      | exact ih1 _ _ _ _ _ _ _ _ _ _ _ _ _ _ _ _
      | exact ih2 _ _ _ _ _ _ _ _
      | exact ih3 _ _ _ _ _ _ _ _ _ _ _ _ _
      | exact ih4 _ _ _ _ _ _ _ _ _ _ _ _ _ _ _ _
      | exact file_Cut.mono _ _ _ _ _
      | exact LeO.none _
      | refine LeO.ite ?_ ?_
      | refine LeO.bind ?_ (fun _ => ?_)
    · intro y0 y1 y2 y3 y4 y5 y6 y7 y8 y9 y10 y11 y12
      unfold amanuensislaw12_step.j0
      repeat' first
      | (with_reducible exact ih0 _ _ _ _ _ _ _ _ _ _ _ _)
      | (with_reducible exact ih1 _ _ _ _ _ _ _ _ _ _ _ _ _ _ _ _)
      | (with_reducible exact ih2 _ _ _ _ _ _ _ _)
      | (with_reducible exact ih3 _ _ _ _ _ _ _ _ _ _ _ _ _)
      | (with_reducible exact ih4 _ _ _ _ _ _ _ _ _ _ _ _ _ _ _ _)
      | (with_reducible exact file_Cut.mono _ _ _ _ _)
      | (with_reducible exact LeO.refl _)
      | (with_reducible exact LeO.none _)
      | (with_reducible refine LeO.ite ?_ ?_)
      | (with_reducible refine LeO.bind ?_ (fun _ => ?_))
      | exact ih0 _ _ _ _ _ _ _ _ _ _ _ _
      | exact ih1 _ _ _ _ _ _ _ _ _ _ _ _ _ _ _ _
      | exact ih2 _ _ _ _ _ _ _ _
      | exact ih3 _ _ _ _ _ _ _ _ _ _ _ _ _
      | exact ih4 _ _ _ _ _ _ _ _ _ _ _ _ _ _ _ _
      | exact file_Cut.mono _ _ _ _ _
      | exact LeO.none _
      | refine LeO.ite ?_ ?_
      | refine LeO.bind ?_ (fun _ => ?_)
    · intro y0 y1 y2 y3 y4 y5 y6 y7 y8 y9 y10 y11 y12 y13 y14 y15
      unfold amanuensislaw12_step.j1
      repeat' first
      | (with_reducible exact ih0 _ _ _ _ _ _ _ _ _ _ _ _)
      | (with_reducible exact ih1 _ _ _ _ _ _ _ _ _ _ _ _ _ _ _ _)
      | (with_reducible exact ih2 _ _ _ _ _ _ _ _)
      | (with_reducible exact ih3 _ _ _ _ _ _ _ _ _ _ _ _ _)
      | (with_reducible exact ih4 _ _ _ _ _ _ _ _ _ _ _ _ _ _ _ _)
      | (with_reducible exact file_Cut.mono _ _ _ _ _)
      | (with_reducible exact LeO.refl _)
      | (with_reducible exact LeO.none _)
      | (with_reducible refine LeO.ite ?_ ?_)
      | (with_reducible refine LeO.bind ?_ (fun _ => ?_))
      | exact ih0 _ _ _ _ _ _ _ _ _ _ _ _
      | exact ih1 _ _ _ _ _ _ _ _ _ _ _ _ _ _ _ _
      | exact ih2 _ _ _ _ _ _ _ _
      | exact ih3 _ _ _ _ _ _ _ _ _ _ _ _ _
      | exact ih4 _ _ _ _ _ _ _ _ _ _ _ _ _ _ _ _
      | exact file_Cut.mono _ _ _ _ _
      | exact LeO.none _
      | refine LeO.ite ?_ ?_
      | refine LeO.bind ?_ (fun _ => ?_)
theorem amanuensislaw12_step.mono : ∀ a0 a1 a2 a3 a4 a5 k, LeO (amanuensislaw12_step.f k a0 a1 a2 a3 a4 a5) (amanuensislaw12_step.f (k + 1) a0 a1 a2 a3 a4 a5) := by
  intro a0 a1 a2 a3 a4 a5 k
  obtain ⟨ih0, ih1, ih2, ih3, ih4⟩ := amanuensislaw12_step.mono_l k
  unfold amanuensislaw12_step.f
  repeat' first
      | (with_reducible exact ih0 _ _ _ _ _ _ _ _ _ _ _ _)
      | (with_reducible exact ih1 _ _ _ _ _ _ _ _ _ _ _ _ _ _ _ _)
      | (with_reducible exact ih2 _ _ _ _ _ _ _ _)
      | (with_reducible exact ih3 _ _ _ _ _ _ _ _ _ _ _ _ _)
      | (with_reducible exact ih4 _ _ _ _ _ _ _ _ _ _ _ _ _ _ _ _)
      | (with_reducible exact file_Cut.mono _ _ _ _ _)
      | (with_reducible exact LeO.refl _)
      | (with_reducible exact LeO.none _)
      | (with_reducible refine LeO.ite ?_ ?_)
      | (with_reducible refine LeO.bind ?_ (fun _ => ?_))
      | exact ih0 _ _ _ _ _ _ _ _ _ _ _ _
      | exact ih1 _ _ _ _ _ _ _ _ _ _ _ _ _ _ _ _
      | exact ih2 _ _ _ _ _ _ _ _
      | exact ih3 _ _ _ _ _ _ _ _ _ _ _ _ _
      | exact ih4 _ _ _ _ _ _ _ _ _ _ _ _ _ _ _ _
      | exact file_Cut.mono _ _ _ _ _
      | exact LeO.none _
      | refine LeO.ite ?_ ?_
      | refine LeO.bind ?_ (fun _ => ?_)
def amanuensislaw12_step.T10 : Bool × List (List Nat × List Nat) := (true, [([], []), ([0], [0]), ([], []), ([2], [2]), ([], []), ([4], [4]), ([3, 5], [3, 5]), ([], []), ([7], [7]), ([1, 6, 8], [1, 6, 8]), ([], []), ([9, 10, 0, 1, 2, 3, 4, 5, 6, 7, 8, 9, 10], [9])])
def amanuensislaw12_step.B10 : List Nat := [0, 1, 0, 4, 0, 16, 60, 0, 128, 511, 0, 2047]
theorem amanuensislaw12_step.tab10 : rtab .any (opsOf Try.f29 10) = amanuensislaw12_step.T10 := by kernel_rfl
theorem amanuensislaw12_step.bits10 : waitsOk amanuensislaw12_step.T10.2 amanuensislaw12_step.B10 = true := by kernel_rfl
def amanuensislaw12_step.T25 : Bool × List (List Nat × List Nat) := (true, [([], []), ([0], [0]), ([], []), ([2], [2]), ([1, 3], [1, 3]), ([], []), ([5], [5]), ([4, 6], [4, 6]), ([], []), ([7, 8, 0, 1, 2, 3, 4, 5, 6, 7, 8], [7])])
def amanuensislaw12_step.B25 : List Nat := [0, 1, 0, 4, 15, 0, 32, 127, 0, 511]
theorem amanuensislaw12_step.tab25 : rtab .any (opsOf Try.f29 25) = amanuensislaw12_step.T25 := by kernel_rfl
theorem amanuensislaw12_step.bits25 : waitsOk amanuensislaw12_step.T25.2 amanuensislaw12_step.B25 = true := by kernel_rfl
set_option maxHeartbeats 8000000 in
set_option maxRecDepth 100000 in
theorem amanuensislaw12_step.calls (k : Nat) (a0_0 : ByteArray) (a0_1 : ByteArray) (a0_2 : Int) (a1_0 : Int) (a1_1 : Int) (a1_2 : ByteArray) (r1 : ByteArray) (r2 : ByteArray) (r3 : Int) (r4 : Bool) (w : World) (h : amanuensislaw12_step.f k a0_0 a0_1 a0_2 a1_0 a1_1 a1_2 = some (r1, r2, r3, r4)) :
    Calls Try.prog 29 #[.agg #[.string a0_0, .string a0_1, .int .i64 a0_2], .agg #[.int .i64 a1_0, .int .i64 a1_1, .string a1_2]] w fun e w' => e = .returned (.tuple #[.agg #[.string r1, .string r2, .int .i64 r3], .bool r4]) ∧ Below w.heap.size w w' := by
  have hu23 := Try.underlying23
  have hu32 := Try.underlying32
  have HB := Aside0.mk (Below.refl w.heap.size w)
  have H : ((amanuensisref9_File.f a0_0 a0_1 a0_2).bind fun t162 => ((amanuensislaw0_Within.f a1_0 7).bind fun t165 => (if t165 = 3 then (amanuensislaw12_step.j0 k t162 1 t165 (t165 == 3) a0_0 a0_1 a0_2 a1_0 a1_1 a1_2 (⟨#[]⟩ : ByteArray) (⟨#[]⟩ : ByteArray) 0) else (amanuensislaw12_step.j0 k t162 1 t165 (t165 == 4) a0_0 a0_1 a0_2 a1_0 a1_1 a1_2 (⟨#[]⟩ : ByteArray) (⟨#[]⟩ : ByteArray) 0)))) = some (r1, r2, r3, r4) := h
  clear h
  replace H := Option.bind_eq_some_iff.mp H
  obtain ⟨t162, A30, H⟩ := H
  replace H : ((amanuensislaw0_Within.f a1_0 7).bind fun t165 => (if t165 = 3 then (amanuensislaw12_step.j0 k t162 1 t165 (t165 == 3) a0_0 a0_1 a0_2 a1_0 a1_1 a1_2 (⟨#[]⟩ : ByteArray) (⟨#[]⟩ : ByteArray) 0) else (amanuensislaw12_step.j0 k t162 1 t165 (t165 == 4) a0_0 a0_1 a0_2 a1_0 a1_1 a1_2 (⟨#[]⟩ : ByteArray) (⟨#[]⟩ : ByteArray) 0))) = some (r1, r2, r3, r4) := H
  have A3 := Aside0.mk A30
  clear A30
  replace H := Option.bind_eq_some_iff.mp H
  obtain ⟨t165, A40, H⟩ := H
  replace H : (if t165 = 3 then (amanuensislaw12_step.j0 k t162 1 t165 (t165 == 3) a0_0 a0_1 a0_2 a1_0 a1_1 a1_2 (⟨#[]⟩ : ByteArray) (⟨#[]⟩ : ByteArray) 0) else (amanuensislaw12_step.j0 k t162 1 t165 (t165 == 4) a0_0 a0_1 a0_2 a1_0 a1_1 a1_2 (⟨#[]⟩ : ByteArray) (⟨#[]⟩ : ByteArray) 0)) = some (r1, r2, r3, r4) := H
  have A4 := Aside0.mk A40
  clear A40
  have HC5 := Aside0.mk H
  clear H
  go_enter Try.func29, Try.ntmps29
  go_upto_block 0 with (first | ((with_reducible refine gate_dst (N := 2) rfl ?_); (try (refine gate_guard (by rfl) ?_; dsimp only)); refine box_event ?hg (N := 2) ?hd (cs := #[.string a0_0, .string a0_1, .int .i64 a0_2]) (t := 23) ?hr ?_; (case hd => rfl); (case hg => rfl); (case hr => first | (go_simp; done) | (go_simp; rfl)); intro gb159 hg w6 hbox hb; have n0_ := Aside0.mk (below_step (by repeat (first | (with_reducible first | exact HB.out | apply below_alloc | apply pw_below_drewN | apply below_drew1) | exact HB.out)) hb); have n1_ := Aside0.mk (hbox); have n2_ := Aside0.mk ((by rw [hg]; exact (below_size (by repeat (first | (with_reducible first | exact HB.out | apply below_alloc | apply pw_below_drewN | apply below_drew1) | exact HB.out))) : w.heap.size ≤ gb159)); have n3_ := Aside0.mk ((by rw [hg]; exact (below_size (by repeat (first | (with_reducible first | exact HB.out | apply below_alloc | apply pw_below_drewN | apply below_drew1) | exact HB.out))) : w.heap.size ≤ gb159)); clear HB; have HB := n0_; have BK159 := n1_; have GW159 := n2_; have GE159 := n3_; clear n0_ n1_ n2_ n3_; clear hb hbox hg) | ((with_reducible refine gate_dst (N := 3) rfl ?_); (try (refine gate_guard (by rfl) ?_; dsimp only)); refine box_event ?hg (N := 3) ?hd (cs := #[.int .i64 a1_0, .int .i64 a1_1, .string a1_2]) (t := 32) ?hr ?_; (case hd => rfl); (case hg => rfl); (case hr => first | (go_simp; done) | (go_simp; rfl)); intro gb160 hg w7 hbox hb; have n0_ := Aside0.mk (blk_below (g := gb159) (o := .cells #[.string a0_0, .string a0_1, .int .i64 a0_2] 23 (0, 0)) (by (with_reducible repeat (first | refine blk_drewN ?_ _ | refine blk_drew ?_ | refine blk_alloc ?_ _)); exact BK159.out) hb); have n1_ := Aside0.mk (below_step (by repeat (first | (with_reducible first | exact HB.out | apply below_alloc | apply pw_below_drewN | apply below_drew1 | refine below_set ?_ GE159.out) | exact HB.out)) hb); have n2_ := Aside0.mk (hbox); have n3_ := Aside0.mk ((by rw [hg]; exact (below_size (by repeat (first | (with_reducible first | exact HB.out | apply below_alloc | apply pw_below_drewN | apply below_drew1 | refine below_set ?_ GE159.out) | exact HB.out))) : w.heap.size ≤ gb160)); have n4_ := Aside0.mk ((by rw [hg]; exact (below_size (by repeat (first | (with_reducible first | exact HB.out | apply below_alloc | apply pw_below_drewN | apply below_drew1 | refine below_set ?_ GE159.out) | exact HB.out))) : w.heap.size ≤ gb160)); have n5_ := Aside0.mk ((by rw [hg]; exact Nat.ne_of_lt (blk_lt (g := gb159) (o := .cells #[.string a0_0, .string a0_1, .int .i64 a0_2] 23 (0, 0)) (by (with_reducible repeat (first | refine blk_drewN ?_ _ | refine blk_drew ?_ | refine blk_alloc ?_ _)); exact BK159.out)) : gb159 ≠ gb160)); have n6_ := Aside0.mk ((by rw [hg]; exact Nat.ne_of_gt (blk_lt (g := gb159) (o := .cells #[.string a0_0, .string a0_1, .int .i64 a0_2] 23 (0, 0)) (by (with_reducible repeat (first | refine blk_drewN ?_ _ | refine blk_drew ?_ | refine blk_alloc ?_ _)); exact BK159.out)) : gb160 ≠ gb159)); clear BK159; clear HB; have BK159 := n0_; have HB := n1_; have BK160 := n2_; have GW160 := n3_; have GE160 := n4_; have NB159_160 := n5_; have NB160_159 := n6_; clear n0_ n1_ n2_ n3_ n4_ n5_ n6_; clear hb hbox hg) | ((with_reducible refine gate_dst (N := 4) rfl ?_); (try (refine gate_guard (by rfl) ?_; dsimp only)); refine box_event ?hg (N := 4) ?hd (cs := #[.string (⟨#[]⟩ : ByteArray), .string (⟨#[]⟩ : ByteArray), .int .i64 0]) (t := 23) ?hr ?_; (case hd => rfl); (case hg => rfl); (case hr => first | (go_simp; done) | (go_simp; rfl)); intro gb161 hg w8 hbox hb; have n0_ := Aside0.mk (blk_below (g := gb159) (o := .cells #[.string a0_0, .string a0_1, .int .i64 a0_2] 23 (0, 0)) (by (with_reducible repeat (first | refine blk_drewN ?_ _ | refine blk_drew ?_ | refine blk_alloc ?_ _)); exact BK159.out) hb); have n1_ := Aside0.mk (blk_below (g := gb160) (o := .cells #[.int .i64 a1_0, .int .i64 a1_1, .string a1_2] 32 (0, 0)) (by (with_reducible repeat (first | refine blk_drewN ?_ _ | refine blk_drew ?_ | refine blk_alloc ?_ _)); exact BK160.out) hb); have n2_ := Aside0.mk (below_step (by repeat (first | (with_reducible first | exact HB.out | apply below_alloc | apply pw_below_drewN | apply below_drew1 | refine below_set ?_ GE159.out | refine below_set ?_ GE160.out) | exact HB.out)) hb); have n3_ := Aside0.mk (hbox); have n4_ := Aside0.mk ((by rw [hg]; exact (below_size (by repeat (first | (with_reducible first | exact HB.out | apply below_alloc | apply pw_below_drewN | apply below_drew1 | refine below_set ?_ GE159.out | refine below_set ?_ GE160.out) | exact HB.out))) : w.heap.size ≤ gb161)); have n5_ := Aside0.mk ((by rw [hg]; exact (below_size (by repeat (first | (with_reducible first | exact HB.out | apply below_alloc | apply pw_below_drewN | apply below_drew1 | refine below_set ?_ GE159.out | refine below_set ?_ GE160.out) | exact HB.out))) : w.heap.size ≤ gb161)); have n6_ := Aside0.mk ((by rw [hg]; exact Nat.ne_of_lt (blk_lt (g := gb159) (o := .cells #[.string a0_0, .string a0_1, .int .i64 a0_2] 23 (0, 0)) (by (with_reducible repeat (first | refine blk_drewN ?_ _ | refine blk_drew ?_ | refine blk_alloc ?_ _)); exact BK159.out)) : gb159 ≠ gb161)); have n7_ := Aside0.mk ((by rw [hg]; exact Nat.ne_of_gt (blk_lt (g := gb159) (o := .cells #[.string a0_0, .string a0_1, .int .i64 a0_2] 23 (0, 0)) (by (with_reducible repeat (first | refine blk_drewN ?_ _ | refine blk_drew ?_ | refine blk_alloc ?_ _)); exact BK159.out)) : gb161 ≠ gb159)); have n8_ := Aside0.mk ((by rw [hg]; exact Nat.ne_of_lt (blk_lt (g := gb160) (o := .cells #[.int .i64 a1_0, .int .i64 a1_1, .string a1_2] 32 (0, 0)) (by (with_reducible repeat (first | refine blk_drewN ?_ _ | refine blk_drew ?_ | refine blk_alloc ?_ _)); exact BK160.out)) : gb160 ≠ gb161)); have n9_ := Aside0.mk ((by rw [hg]; exact Nat.ne_of_gt (blk_lt (g := gb160) (o := .cells #[.int .i64 a1_0, .int .i64 a1_1, .string a1_2] 32 (0, 0)) (by (with_reducible repeat (first | refine blk_drewN ?_ _ | refine blk_drew ?_ | refine blk_alloc ?_ _)); exact BK160.out)) : gb161 ≠ gb160)); clear BK159; clear BK160; clear HB; have BK159 := n0_; have BK160 := n1_; have HB := n2_; have BK161 := n3_; have GW161 := n4_; have GE161 := n5_; have NB159_161 := n6_; have NB161_159 := n7_; have NB160_161 := n8_; have NB161_160 := n9_; clear n0_ n1_ n2_ n3_ n4_ n5_ n6_ n7_ n8_ n9_; clear hb hbox hg; have hnb9 := NB159_160.out; have hnc9 := NB160_159.out; have hnb10 := NB159_161.out; have hnc10 := NB161_159.out; have hcz11_0 : w8.cell? ⟨gb159, 0, none⟩ = some (.string a0_0) := (blk_cell BK159.out 0).trans rfl; have hcz11_1 : w8.cell? ⟨gb159, 1, none⟩ = some (.string a0_1) := (blk_cell BK159.out 1).trans rfl; have hcz11_2 : w8.cell? ⟨gb159, 2, none⟩ = some (.int .i64 a0_2) := (blk_cell BK159.out 2).trans rfl; have hfz11_0 := blk_frozen BK159.out 0; have hfz11_1 := blk_frozen BK159.out 1; have hfz11_2 := blk_frozen BK159.out 2) | ((with_reducible refine gate_callee (f := 38) rfl ?_); refine goesL_ (some 16) rfl rfl Try.func38 (by kernel_rfl) rfl #[.agg #[.string a0_0, .string a0_1, .int .i64 a0_2]] rfl (by (try simp only [List.map_toArray, List.map_cons, List.map_nil]); first | done | rfl | (simp only [List.length_drop, List.length_take]; rfl)) ?_; (with_reducible refine (amanuensisref9_File.calls a0_0 a0_1 a0_2 t162 _ A3.out).mono ?_); rintro e w12 ⟨rfl, hb⟩; refine ⟨_, rfl, ?_⟩; have n0_ := Aside0.mk (blk_below (g := gb159) (o := .cells #[.string a0_0, .string a0_1, .int .i64 a0_2] 23 (0, 0)) (by (with_reducible repeat (first | refine blk_drewN ?_ _ | refine blk_drew ?_ | refine blk_alloc ?_ _)); exact BK159.out) hb); have n1_ := Aside0.mk (blk_below (g := gb160) (o := .cells #[.int .i64 a1_0, .int .i64 a1_1, .string a1_2] 32 (0, 0)) (by (with_reducible repeat (first | refine blk_drewN ?_ _ | refine blk_drew ?_ | refine blk_alloc ?_ _)); exact BK160.out) hb); have n2_ := Aside0.mk (blk_below (g := gb161) (o := .cells #[.string (⟨#[]⟩ : ByteArray), .string (⟨#[]⟩ : ByteArray), .int .i64 0] 23 (0, 0)) (by (with_reducible repeat (first | refine blk_drewN ?_ _ | refine blk_drew ?_ | refine blk_alloc ?_ _)); exact BK161.out) hb); have n3_ := Aside0.mk (below_step (by repeat (first | (with_reducible first | exact HB.out | apply below_alloc | apply pw_below_drewN | apply below_drew1 | refine below_set ?_ GE159.out | refine below_set ?_ GE160.out | refine below_set ?_ GE161.out) | exact HB.out)) hb); clear BK159; clear BK160; clear BK161; clear HB; have BK159 := n0_; have BK160 := n1_; have BK161 := n2_; have HB := n3_; clear n0_ n1_ n2_ n3_; (try clear hb); (try clear hb2); (try clear hk); (try clear hi)) | ((with_reducible refine gate_dst (N := 8) rfl ?_); (try (refine gate_guard (by rfl) ?_; dsimp only)); refine box_event ?hg (N := 8) ?hd (cs := #[.string (⟨#[]⟩ : ByteArray), .string (⟨#[]⟩ : ByteArray), .int .i64 0]) (t := 23) ?hr ?_; (case hd => rfl); (case hg => rfl); (case hr => first | (go_simp; done) | (go_simp; rfl)); intro gb163 hg w13 hbox hb; have n0_ := Aside0.mk (blk_below (g := gb159) (o := .cells #[.string a0_0, .string a0_1, .int .i64 a0_2] 23 (0, 0)) (by (with_reducible repeat (first | refine blk_drewN ?_ _ | refine blk_drew ?_ | refine blk_alloc ?_ _)); exact BK159.out) hb); have n1_ := Aside0.mk (blk_below (g := gb160) (o := .cells #[.int .i64 a1_0, .int .i64 a1_1, .string a1_2] 32 (0, 0)) (by (with_reducible repeat (first | refine blk_drewN ?_ _ | refine blk_drew ?_ | refine blk_alloc ?_ _)); exact BK160.out) hb); have n2_ := Aside0.mk (blk_below (g := gb161) (o := .cells #[.string (⟨#[]⟩ : ByteArray), .string (⟨#[]⟩ : ByteArray), .int .i64 0] 23 (0, 0)) (by (with_reducible repeat (first | refine blk_drewN ?_ _ | refine blk_drew ?_ | refine blk_alloc ?_ _)); exact BK161.out) hb); have n3_ := Aside0.mk (below_step (by repeat (first | (with_reducible first | exact HB.out | apply below_alloc | apply pw_below_drewN | apply below_drew1 | refine below_set ?_ GE159.out | refine below_set ?_ GE160.out | refine below_set ?_ GE161.out) | exact HB.out)) hb); have n4_ := Aside0.mk (hbox); have n5_ := Aside0.mk ((by rw [hg]; exact (below_size (by repeat (first | (with_reducible first | exact HB.out | apply below_alloc | apply pw_below_drewN | apply below_drew1 | refine below_set ?_ GE159.out | refine below_set ?_ GE160.out | refine below_set ?_ GE161.out) | exact HB.out))) : w.heap.size ≤ gb163)); have n6_ := Aside0.mk ((by rw [hg]; exact (below_size (by repeat (first | (with_reducible first | exact HB.out | apply below_alloc | apply pw_below_drewN | apply below_drew1 | refine below_set ?_ GE159.out | refine below_set ?_ GE160.out | refine below_set ?_ GE161.out) | exact HB.out))) : w.heap.size ≤ gb163)); have n7_ := Aside0.mk ((by rw [hg]; exact Nat.ne_of_lt (blk_lt (g := gb159) (o := .cells #[.string a0_0, .string a0_1, .int .i64 a0_2] 23 (0, 0)) (by (with_reducible repeat (first | refine blk_drewN ?_ _ | refine blk_drew ?_ | refine blk_alloc ?_ _)); exact BK159.out)) : gb159 ≠ gb163)); have n8_ := Aside0.mk ((by rw [hg]; exact Nat.ne_of_gt (blk_lt (g := gb159) (o := .cells #[.string a0_0, .string a0_1, .int .i64 a0_2] 23 (0, 0)) (by (with_reducible repeat (first | refine blk_drewN ?_ _ | refine blk_drew ?_ | refine blk_alloc ?_ _)); exact BK159.out)) : gb163 ≠ gb159)); have n9_ := Aside0.mk ((by rw [hg]; exact Nat.ne_of_lt (blk_lt (g := gb160) (o := .cells #[.int .i64 a1_0, .int .i64 a1_1, .string a1_2] 32 (0, 0)) (by (with_reducible repeat (first | refine blk_drewN ?_ _ | refine blk_drew ?_ | refine blk_alloc ?_ _)); exact BK160.out)) : gb160 ≠ gb163)); have n10_ := Aside0.mk ((by rw [hg]; exact Nat.ne_of_gt (blk_lt (g := gb160) (o := .cells #[.int .i64 a1_0, .int .i64 a1_1, .string a1_2] 32 (0, 0)) (by (with_reducible repeat (first | refine blk_drewN ?_ _ | refine blk_drew ?_ | refine blk_alloc ?_ _)); exact BK160.out)) : gb163 ≠ gb160)); have n11_ := Aside0.mk ((by rw [hg]; exact Nat.ne_of_lt (blk_lt (g := gb161) (o := .cells #[.string (⟨#[]⟩ : ByteArray), .string (⟨#[]⟩ : ByteArray), .int .i64 0] 23 (0, 0)) (by (with_reducible repeat (first | refine blk_drewN ?_ _ | refine blk_drew ?_ | refine blk_alloc ?_ _)); exact BK161.out)) : gb161 ≠ gb163)); have n12_ := Aside0.mk ((by rw [hg]; exact Nat.ne_of_gt (blk_lt (g := gb161) (o := .cells #[.string (⟨#[]⟩ : ByteArray), .string (⟨#[]⟩ : ByteArray), .int .i64 0] 23 (0, 0)) (by (with_reducible repeat (first | refine blk_drewN ?_ _ | refine blk_drew ?_ | refine blk_alloc ?_ _)); exact BK161.out)) : gb163 ≠ gb161)); clear BK159; clear BK160; clear BK161; clear HB; have BK159 := n0_; have BK160 := n1_; have BK161 := n2_; have HB := n3_; have BK163 := n4_; have GW163 := n5_; have GE163 := n6_; have NB159_163 := n7_; have NB163_159 := n8_; have NB160_163 := n9_; have NB163_160 := n10_; have NB161_163 := n11_; have NB163_161 := n12_; clear n0_ n1_ n2_ n3_ n4_ n5_ n6_ n7_ n8_ n9_ n10_ n11_ n12_; clear hb hbox hg) | ((with_reducible refine gate_dst (N := 9) rfl ?_); (try (refine gate_guard (by rfl) ?_; dsimp only)); refine box_event ?hg (N := 9) ?hd (cs := #[.string (⟨#[]⟩ : ByteArray), .string (⟨#[]⟩ : ByteArray), .int .i64 0]) (t := 23) ?hr ?_; (case hd => rfl); (case hg => rfl); (case hr => first | (go_simp; done) | (go_simp; rfl)); intro gb164 hg w14 hbox hb; have n0_ := Aside0.mk (blk_below (g := gb159) (o := .cells #[.string a0_0, .string a0_1, .int .i64 a0_2] 23 (0, 0)) (by (with_reducible repeat (first | refine blk_drewN ?_ _ | refine blk_drew ?_ | refine blk_alloc ?_ _)); exact BK159.out) hb); have n1_ := Aside0.mk (blk_below (g := gb160) (o := .cells #[.int .i64 a1_0, .int .i64 a1_1, .string a1_2] 32 (0, 0)) (by (with_reducible repeat (first | refine blk_drewN ?_ _ | refine blk_drew ?_ | refine blk_alloc ?_ _)); exact BK160.out) hb); have n2_ := Aside0.mk (blk_below (g := gb161) (o := .cells #[.string (⟨#[]⟩ : ByteArray), .string (⟨#[]⟩ : ByteArray), .int .i64 0] 23 (0, 0)) (by (with_reducible repeat (first | refine blk_drewN ?_ _ | refine blk_drew ?_ | refine blk_alloc ?_ _)); exact BK161.out) hb); have n3_ := Aside0.mk (blk_below (g := gb163) (o := .cells #[.string (⟨#[]⟩ : ByteArray), .string (⟨#[]⟩ : ByteArray), .int .i64 0] 23 (0, 0)) (by (with_reducible repeat (first | refine blk_drewN ?_ _ | refine blk_drew ?_ | refine blk_alloc ?_ _)); exact BK163.out) hb); have n4_ := Aside0.mk (below_step (by repeat (first | (with_reducible first | exact HB.out | apply below_alloc | apply pw_below_drewN | apply below_drew1 | refine below_set ?_ GE159.out | refine below_set ?_ GE160.out | refine below_set ?_ GE161.out | refine below_set ?_ GE163.out) | exact HB.out)) hb); have n5_ := Aside0.mk (hbox); have n6_ := Aside0.mk ((by rw [hg]; exact (below_size (by repeat (first | (with_reducible first | exact HB.out | apply below_alloc | apply pw_below_drewN | apply below_drew1 | refine below_set ?_ GE159.out | refine below_set ?_ GE160.out | refine below_set ?_ GE161.out | refine below_set ?_ GE163.out) | exact HB.out))) : w.heap.size ≤ gb164)); have n7_ := Aside0.mk ((by rw [hg]; exact (below_size (by repeat (first | (with_reducible first | exact HB.out | apply below_alloc | apply pw_below_drewN | apply below_drew1 | refine below_set ?_ GE159.out | refine below_set ?_ GE160.out | refine below_set ?_ GE161.out | refine below_set ?_ GE163.out) | exact HB.out))) : w.heap.size ≤ gb164)); have n8_ := Aside0.mk ((by rw [hg]; exact Nat.ne_of_lt (blk_lt (g := gb159) (o := .cells #[.string a0_0, .string a0_1, .int .i64 a0_2] 23 (0, 0)) (by (with_reducible repeat (first | refine blk_drewN ?_ _ | refine blk_drew ?_ | refine blk_alloc ?_ _)); exact BK159.out)) : gb159 ≠ gb164)); have n9_ := Aside0.mk ((by rw [hg]; exact Nat.ne_of_gt (blk_lt (g := gb159) (o := .cells #[.string a0_0, .string a0_1, .int .i64 a0_2] 23 (0, 0)) (by (with_reducible repeat (first | refine blk_drewN ?_ _ | refine blk_drew ?_ | refine blk_alloc ?_ _)); exact BK159.out)) : gb164 ≠ gb159)); have n10_ := Aside0.mk ((by rw [hg]; exact Nat.ne_of_lt (blk_lt (g := gb160) (o := .cells #[.int .i64 a1_0, .int .i64 a1_1, .string a1_2] 32 (0, 0)) (by (with_reducible repeat (first | refine blk_drewN ?_ _ | refine blk_drew ?_ | refine blk_alloc ?_ _)); exact BK160.out)) : gb160 ≠ gb164)); have n11_ := Aside0.mk ((by rw [hg]; exact Nat.ne_of_gt (blk_lt (g := gb160) (o := .cells #[.int .i64 a1_0, .int .i64 a1_1, .string a1_2] 32 (0, 0)) (by (with_reducible repeat (first | refine blk_drewN ?_ _ | refine blk_drew ?_ | refine blk_alloc ?_ _)); exact BK160.out)) : gb164 ≠ gb160)); have n12_ := Aside0.mk ((by rw [hg]; exact Nat.ne_of_lt (blk_lt (g := gb161) (o := .cells #[.string (⟨#[]⟩ : ByteArray), .string (⟨#[]⟩ : ByteArray), .int .i64 0] 23 (0, 0)) (by (with_reducible repeat (first | refine blk_drewN ?_ _ | refine blk_drew ?_ | refine blk_alloc ?_ _)); exact BK161.out)) : gb161 ≠ gb164)); have n13_ := Aside0.mk ((by rw [hg]; exact Nat.ne_of_gt (blk_lt (g := gb161) (o := .cells #[.string (⟨#[]⟩ : ByteArray), .string (⟨#[]⟩ : ByteArray), .int .i64 0] 23 (0, 0)) (by (with_reducible repeat (first | refine blk_drewN ?_ _ | refine blk_drew ?_ | refine blk_alloc ?_ _)); exact BK161.out)) : gb164 ≠ gb161)); have n14_ := Aside0.mk ((by rw [hg]; exact Nat.ne_of_lt (blk_lt (g := gb163) (o := .cells #[.string (⟨#[]⟩ : ByteArray), .string (⟨#[]⟩ : ByteArray), .int .i64 0] 23 (0, 0)) (by (with_reducible repeat (first | refine blk_drewN ?_ _ | refine blk_drew ?_ | refine blk_alloc ?_ _)); exact BK163.out)) : gb163 ≠ gb164)); have n15_ := Aside0.mk ((by rw [hg]; exact Nat.ne_of_gt (blk_lt (g := gb163) (o := .cells #[.string (⟨#[]⟩ : ByteArray), .string (⟨#[]⟩ : ByteArray), .int .i64 0] 23 (0, 0)) (by (with_reducible repeat (first | refine blk_drewN ?_ _ | refine blk_drew ?_ | refine blk_alloc ?_ _)); exact BK163.out)) : gb164 ≠ gb163)); clear BK159; clear BK160; clear BK161; clear BK163; clear HB; have BK159 := n0_; have BK160 := n1_; have BK161 := n2_; have BK163 := n3_; have HB := n4_; have BK164 := n5_; have GW164 := n6_; have GE164 := n7_; have NB159_164 := n8_; have NB164_159 := n9_; have NB160_164 := n10_; have NB164_160 := n11_; have NB161_164 := n12_; have NB164_161 := n13_; have NB163_164 := n14_; have NB164_163 := n15_; clear n0_ n1_ n2_ n3_ n4_ n5_ n6_ n7_ n8_ n9_ n10_ n11_ n12_ n13_ n14_ n15_; clear hb hbox hg; have hnb15 := NB160_161.out; have hnc15 := NB161_160.out; have hnb16 := NB160_163.out; have hnc16 := NB163_160.out; have hnb17 := NB160_164.out; have hnc17 := NB164_160.out; have hcz18_0 : w14.cell? ⟨gb160, 0, none⟩ = some (.int .i64 a1_0) := (blk_cell BK160.out 0).trans rfl; have hcz18_1 : w14.cell? ⟨gb160, 1, none⟩ = some (.int .i64 a1_1) := (blk_cell BK160.out 1).trans rfl; have hcz18_2 : w14.cell? ⟨gb160, 2, none⟩ = some (.string a1_2) := (blk_cell BK160.out 2).trans rfl; have hfz18_0 := blk_frozen BK160.out 0; have hfz18_1 := blk_frozen BK160.out 1; have hfz18_2 := blk_frozen BK160.out 2) | ((with_reducible refine gate_callee (f := 26) rfl ?_); refine goesL_ (some 19) rfl rfl Try.func26 (by kernel_rfl) rfl #[.int .i64 a1_0, .int .i64 7] rfl (by (try simp only [List.map_toArray, List.map_cons, List.map_nil]); first | done | rfl | (simp only [List.length_drop, List.length_take]; rfl)) ?_; (with_reducible refine (amanuensislaw0_Within.calls a1_0 7 t165 _ A4.out).mono ?_); rintro e w' ⟨rfl, ⟨nd, rfl⟩⟩; refine ⟨_, rfl, ?_⟩))
  (try simp only [Act.put, List.setIfInBounds_toArray, List.set_cons_zero, List.set_cons_succ])
  go_cut [7, 10] (fun v7 v10 wc => ∃ (kq : Nat) (x7_4 : Int) (x10_4 : Int) (x164000_4 : ByteArray) (x164001_4 : ByteArray) (x164002_4 : Int) (x165000_4 : ByteArray) (x165001_4 : ByteArray) (x165002_4 : Int), v7 = .int .i64 x7_4 ∧ v10 = .int .i64 x10_4 ∧ Aside0 (amanuensislaw12_step.j2 kq t162 x7_4 x10_4 a0_0 a0_1 a0_2 x164000_4 x164001_4 x164002_4 x165000_4 x165001_4 x165002_4 = some (r1, r2, r3, r4)) ∧ Aside0 (kq ≤ k) ∧ Aside0 (wc.heap[gb159]? = some (.cells #[.string a0_0, .string a0_1, .int .i64 a0_2] 23 (0, 0))) ∧ Aside0 (wc.heap[gb160]? = some (.cells #[.int .i64 a1_0, .int .i64 a1_1, .string a1_2] 32 (0, 0))) ∧ Aside0 (wc.heap[gb161]? = some (.cells #[.string (⟨#[]⟩ : ByteArray), .string (⟨#[]⟩ : ByteArray), .int .i64 0] 23 (0, 0))) ∧ Aside0 (wc.heap[gb163]? = some (.cells #[.string x164000_4, .string x164001_4, .int .i64 x164002_4] 23 (0, 0))) ∧ Aside0 (wc.heap[gb164]? = some (.cells #[.string x165000_4, .string x165001_4, .int .i64 x165002_4] 23 (0, 0))) ∧ Aside0 (Below w.heap.size w wc))
  case first =>
    have H := HC5.out
    clear HC5
    have HC19 := Aside0.mk H
    clear H
    go_upto_if 44 with (fail)
    go_cut [44] (fun v44 wc => ∃ (kq : Nat) (x44_18 : Bool), v44 = .bool x44_18 ∧ Aside0 (amanuensislaw12_step.j0 kq t162 1 t165 x44_18 a0_0 a0_1 a0_2 a1_0 a1_1 a1_2 (⟨#[]⟩ : ByteArray) (⟨#[]⟩ : ByteArray) 0 = some (r1, r2, r3, r4)) ∧ Aside0 (kq ≤ k) ∧ Aside0 (wc.heap[gb159]? = some (.cells #[.string a0_0, .string a0_1, .int .i64 a0_2] 23 (0, 0))) ∧ Aside0 (wc.heap[gb160]? = some (.cells #[.int .i64 a1_0, .int .i64 a1_1, .string a1_2] 32 (0, 0))) ∧ Aside0 (wc.heap[gb161]? = some (.cells #[.string (⟨#[]⟩ : ByteArray), .string (⟨#[]⟩ : ByteArray), .int .i64 0] 23 (0, 0))) ∧ Aside0 (wc.heap[gb163]? = some (.cells #[.string (⟨#[]⟩ : ByteArray), .string (⟨#[]⟩ : ByteArray), .int .i64 0] 23 (0, 0))) ∧ Aside0 (wc.heap[gb164]? = some (.cells #[.string (⟨#[]⟩ : ByteArray), .string (⟨#[]⟩ : ByteArray), .int .i64 0] 23 (0, 0))) ∧ Aside0 (Below w.heap.size w wc))
    case first =>
      have H := HC19.out
      clear HC19
      by_cases c20 : t165 = 3
      · rw [if_pos c20] at H
        have c20b0 : (t165 == 3) = true := beq_iff_eq.mpr c20
        have c20b1 : (t165 != 3) = false := bne_eq_false_iff_eq.mpr c20
        clear c20
        (first | rw [c20b0] | (simp only [i64_w, i32_w]; rw [c20b0]) | skip)
        have H' := Aside0.mk H
        clear H
        go_wp2
        go_meet
        case rel => exact ⟨_, ((t165 == 3)), (by first | rfl | (simp; done) | (simp [*]; done)), H', ⟨by first | omega | exact Nat.le_refl _⟩, ⟨by (with_reducible repeat (first | refine blk_drewN ?_ _ | refine blk_drew ?_ | refine blk_alloc ?_ _)); exact BK159.out⟩, ⟨by (with_reducible repeat (first | refine blk_drewN ?_ _ | refine blk_drew ?_ | refine blk_alloc ?_ _)); exact BK160.out⟩, ⟨by (with_reducible repeat (first | refine blk_drewN ?_ _ | refine blk_drew ?_ | refine blk_alloc ?_ _)); exact BK161.out⟩, ⟨by (with_reducible repeat (first | refine blk_drewN ?_ _ | refine blk_drew ?_ | refine blk_alloc ?_ _)); exact BK163.out⟩, ⟨by (with_reducible repeat (first | refine blk_drewN ?_ _ | refine blk_drew ?_ | refine blk_alloc ?_ _)); exact BK164.out⟩, ⟨by repeat (first | (with_reducible first | exact HB.out | apply below_alloc | apply pw_below_drewN | apply below_drew1 | refine below_set ?_ GE159.out | refine below_set ?_ GE160.out | refine below_set ?_ GE161.out | refine below_set ?_ GE163.out | refine below_set ?_ GE164.out) | exact HB.out)⟩⟩
      · rw [if_neg c20] at H
        have c20b0 : (t165 == 3) = false := beq_eq_false_iff_ne.mpr c20
        have c20b1 : (t165 != 3) = true := bne_iff_ne.mpr c20
        (first | rw [c20b0] | (simp only [i64_w, i32_w]; rw [c20b0]) | skip)
        have H' := Aside0.mk H
        clear H
        go_wp2
        go_meet
        case rel => exact ⟨_, ((t165 == 4)), (by first | rfl | (simp; done) | (simp [*]; done)), H', ⟨by first | omega | exact Nat.le_refl _⟩, ⟨by (with_reducible repeat (first | refine blk_drewN ?_ _ | refine blk_drew ?_ | refine blk_alloc ?_ _)); exact BK159.out⟩, ⟨by (with_reducible repeat (first | refine blk_drewN ?_ _ | refine blk_drew ?_ | refine blk_alloc ?_ _)); exact BK160.out⟩, ⟨by (with_reducible repeat (first | refine blk_drewN ?_ _ | refine blk_drew ?_ | refine blk_alloc ?_ _)); exact BK161.out⟩, ⟨by (with_reducible repeat (first | refine blk_drewN ?_ _ | refine blk_drew ?_ | refine blk_alloc ?_ _)); exact BK163.out⟩, ⟨by (with_reducible repeat (first | refine blk_drewN ?_ _ | refine blk_drew ?_ | refine blk_alloc ?_ _)); exact BK164.out⟩, ⟨by repeat (first | (with_reducible first | exact HB.out | apply below_alloc | apply pw_below_drewN | apply below_drew1 | refine below_set ?_ GE159.out | refine below_set ?_ GE160.out | refine below_set ?_ GE161.out | refine below_set ?_ GE163.out | refine below_set ?_ GE164.out) | exact HB.out)⟩⟩
    case rest =>
      clear HC19
      try clear c1
      try clear c2
      try clear p2
      try clear c3
      try clear c9
      try clear c10
      try clear c15
      try clear c16
      try clear c17
      try clear c20
      try clear c20b0
      try clear c20b1
      try clear hcz11_0
      try clear hcz11_1
      try clear hcz11_2
      try clear hcz18_0
      try clear hcz18_1
      try clear hcz18_2
      try clear hfz11_0
      try clear hfz11_1
      try clear hfz11_2
      try clear hfz18_0
      try clear hfz18_1
      try clear hfz18_2
      obtain ⟨kq, x44_18, rfl, HA, HJ18, BK159, BK160, BK161, BK163, BK164, HB⟩ := hcut
      cases kq with
      | zero => exact absurd HA.out (by simp [amanuensislaw12_step.j0])
      | succ kj18 =>
        have H := HA.out
        clear HA
        simp only [amanuensislaw12_step.j0] at H
        by_cases c21 : x44_18 = true
        · subst c21
          have H1 : ((file_Sync.f a0_0 a0_1 a0_2).bind fun bt166 => (if t162 = true then ((amanuensisref9_Sync.f a0_0 a0_1 a0_2).bind fun bt170 => (amanuensislaw12_step.j2 kj18 t162 0 bt166.2.2.2 a0_0 a0_1 a0_2 bt166.1 bt166.2.1 bt166.2.2.1 bt170.1 bt170.2.1 bt170.2.2)) else (amanuensislaw12_step.j2 kj18 t162 1 bt166.2.2.2 a0_0 a0_1 a0_2 bt166.1 bt166.2.1 bt166.2.2.1 (⟨#[]⟩ : ByteArray) (⟨#[]⟩ : ByteArray) 0))) = some (r1, r2, r3, r4) := by rw [if_pos rfl] at H; exact H
          clear H
          have H := H1
          clear H1
          replace H := Option.bind_eq_some_iff.mp H
          obtain ⟨⟨t166, t167, t168, t169⟩, A220, H⟩ := H
          replace H : (if t162 = true then ((amanuensisref9_Sync.f a0_0 a0_1 a0_2).bind fun bt170 => (amanuensislaw12_step.j2 kj18 t162 0 t169 a0_0 a0_1 a0_2 t166 t167 t168 bt170.1 bt170.2.1 bt170.2.2)) else (amanuensislaw12_step.j2 kj18 t162 1 t169 a0_0 a0_1 a0_2 t166 t167 t168 (⟨#[]⟩ : ByteArray) (⟨#[]⟩ : ByteArray) 0)) = some (r1, r2, r3, r4) := H
          have A22 := Aside0.mk A220
          clear A220
          by_cases c23 : t162 = true
          · subst c23
            have H1 : ((amanuensisref9_Sync.f a0_0 a0_1 a0_2).bind fun bt170 => (amanuensislaw12_step.j2 kj18 true 0 t169 a0_0 a0_1 a0_2 t166 t167 t168 bt170.1 bt170.2.1 bt170.2.2)) = some (r1, r2, r3, r4) := by rw [if_pos rfl] at H; exact H
            clear H
            have H := H1
            clear H1
            replace H := Option.bind_eq_some_iff.mp H
            obtain ⟨⟨t170, t171, t172⟩, A240, H⟩ := H
            replace H : (amanuensislaw12_step.j2 kj18 true 0 t169 a0_0 a0_1 a0_2 t166 t167 t168 t170 t171 t172) = some (r1, r2, r3, r4) := H
            have A24 := Aside0.mk A240
            clear A240
            have H' := Aside0.mk H
            clear H
            have hnb25 := NB159_160.out
            have hnc25 := NB160_159.out
            have hnb26 := NB159_161.out
            have hnc26 := NB161_159.out
            have hnb27 := NB159_163.out
            have hnc27 := NB163_159.out
            have hnb28 := NB159_164.out
            have hnc28 := NB164_159.out
            have hcz29_0 : wc.cell? ⟨gb159, 0, none⟩ = some (.string a0_0) := (blk_cell BK159.out 0).trans rfl
            have hcz29_1 : wc.cell? ⟨gb159, 1, none⟩ = some (.string a0_1) := (blk_cell BK159.out 1).trans rfl
            have hcz29_2 : wc.cell? ⟨gb159, 2, none⟩ = some (.int .i64 a0_2) := (blk_cell BK159.out 2).trans rfl
            have hfz29_0 := blk_frozen BK159.out 0
            have hfz29_1 := blk_frozen BK159.out 1
            have hfz29_2 := blk_frozen BK159.out 2
            go_wp2_with (first | ((with_reducible refine gate_callee (f := 16) rfl ?_); refine goesL_ (some 49) rfl rfl Try.func16 (by kernel_rfl) rfl #[.agg #[.string a0_0, .string a0_1, .int .i64 a0_2]] rfl (by (try simp only [List.map_toArray, List.map_cons, List.map_nil]); first | done | rfl | (simp only [List.length_drop, List.length_take]; rfl)) ?_; (with_reducible refine (file_Sync.calls a0_0 a0_1 a0_2 t166 t167 t168 t169 _ A22.out).mono ?_); rintro e w30 ⟨rfl, hb⟩; refine ⟨_, rfl, ?_⟩; have n0_ := Aside0.mk (blk_below (g := gb159) (o := .cells #[.string a0_0, .string a0_1, .int .i64 a0_2] 23 (0, 0)) (by (with_reducible repeat (first | refine blk_drewN ?_ _ | refine blk_drew ?_ | refine blk_alloc ?_ _)); exact BK159.out) hb); have n1_ := Aside0.mk (blk_below (g := gb160) (o := .cells #[.int .i64 a1_0, .int .i64 a1_1, .string a1_2] 32 (0, 0)) (by (with_reducible repeat (first | refine blk_drewN ?_ _ | refine blk_drew ?_ | refine blk_alloc ?_ _)); exact BK160.out) hb); have n2_ := Aside0.mk (blk_below (g := gb161) (o := .cells #[.string (⟨#[]⟩ : ByteArray), .string (⟨#[]⟩ : ByteArray), .int .i64 0] 23 (0, 0)) (by (with_reducible repeat (first | refine blk_drewN ?_ _ | refine blk_drew ?_ | refine blk_alloc ?_ _)); exact BK161.out) hb); have n3_ := Aside0.mk (blk_below (g := gb163) (o := .cells #[.string (⟨#[]⟩ : ByteArray), .string (⟨#[]⟩ : ByteArray), .int .i64 0] 23 (0, 0)) (by (with_reducible repeat (first | refine blk_drewN ?_ _ | refine blk_drew ?_ | refine blk_alloc ?_ _)); exact BK163.out) hb); have n4_ := Aside0.mk (blk_below (g := gb164) (o := .cells #[.string (⟨#[]⟩ : ByteArray), .string (⟨#[]⟩ : ByteArray), .int .i64 0] 23 (0, 0)) (by (with_reducible repeat (first | refine blk_drewN ?_ _ | refine blk_drew ?_ | refine blk_alloc ?_ _)); exact BK164.out) hb); have n5_ := Aside0.mk (below_step (by repeat (first | (with_reducible first | exact HB.out | apply below_alloc | apply pw_below_drewN | apply below_drew1 | refine below_set ?_ GE159.out | refine below_set ?_ GE160.out | refine below_set ?_ GE161.out | refine below_set ?_ GE163.out | refine below_set ?_ GE164.out) | exact HB.out)) hb); clear BK159; clear BK160; clear BK161; clear BK163; clear BK164; clear HB; have BK159 := n0_; have BK160 := n1_; have BK161 := n2_; have BK163 := n3_; have BK164 := n4_; have HB := n5_; clear n0_ n1_ n2_ n3_ n4_ n5_; (try clear hb); (try clear hb2); (try clear hk); (try clear hi); have hnb31 := NB163_160.out; have hnc31 := NB160_163.out; have hnb32 := NB163_161.out; have hnc32 := NB161_163.out; have hnb33 := NB163_164.out; have hnc33 := NB164_163.out; have hcz34_0 : w30.cell? ⟨gb163, 0, none⟩ = some (.string (⟨#[]⟩ : ByteArray)) := (blk_cell BK163.out 0).trans rfl; have hcz34_1 : w30.cell? ⟨gb163, 1, none⟩ = some (.string (⟨#[]⟩ : ByteArray)) := (blk_cell BK163.out 1).trans rfl; have hcz34_2 : w30.cell? ⟨gb163, 2, none⟩ = some (.int .i64 0) := (blk_cell BK163.out 2).trans rfl; have hfz34_0 := blk_frozen BK163.out 0; have hfz34_1 := blk_frozen BK163.out 1; have hfz34_2 := blk_frozen BK163.out 2; have hcz35_0 : w30.cell? ⟨gb159, 0, none⟩ = some (.string a0_0) := (blk_cell BK159.out 0).trans rfl; have hcz35_1 : w30.cell? ⟨gb159, 1, none⟩ = some (.string a0_1) := (blk_cell BK159.out 1).trans rfl; have hcz35_2 : w30.cell? ⟨gb159, 2, none⟩ = some (.int .i64 a0_2) := (blk_cell BK159.out 2).trans rfl; have hfz35_0 := blk_frozen BK159.out 0; have hfz35_1 := blk_frozen BK159.out 1; have hfz35_2 := blk_frozen BK159.out 2) | ((with_reducible refine gate_callee (f := 39) rfl ?_); refine goesL_ (some 54) rfl rfl Try.func39 (by kernel_rfl) rfl #[.agg #[.string a0_0, .string a0_1, .int .i64 a0_2]] rfl (by (try simp only [List.map_toArray, List.map_cons, List.map_nil]); first | done | rfl | (simp only [List.length_drop, List.length_take]; rfl)) ?_; (with_reducible refine (amanuensisref9_Sync.calls a0_0 a0_1 a0_2 t170 t171 t172 _ A24.out).mono ?_); rintro e w36 ⟨rfl, hb⟩; refine ⟨_, rfl, ?_⟩; have n0_ := Aside0.mk (blk_below (g := gb159) (o := .cells #[.string a0_0, .string a0_1, .int .i64 a0_2] 23 (0, 0)) (by (with_reducible repeat (first | refine blk_drewN ?_ _ | refine blk_drew ?_ | refine blk_alloc ?_ _)); refine blk_far ?_ NB159_163.out _; (with_reducible repeat (first | refine blk_drewN ?_ _ | refine blk_drew ?_ | refine blk_alloc ?_ _)); refine blk_far ?_ NB159_163.out _; (with_reducible repeat (first | refine blk_drewN ?_ _ | refine blk_drew ?_ | refine blk_alloc ?_ _)); refine blk_far ?_ NB159_163.out _; (with_reducible repeat (first | refine blk_drewN ?_ _ | refine blk_drew ?_ | refine blk_alloc ?_ _)); exact BK159.out) hb); have n1_ := Aside0.mk (blk_below (g := gb160) (o := .cells #[.int .i64 a1_0, .int .i64 a1_1, .string a1_2] 32 (0, 0)) (by (with_reducible repeat (first | refine blk_drewN ?_ _ | refine blk_drew ?_ | refine blk_alloc ?_ _)); refine blk_far ?_ NB160_163.out _; (with_reducible repeat (first | refine blk_drewN ?_ _ | refine blk_drew ?_ | refine blk_alloc ?_ _)); refine blk_far ?_ NB160_163.out _; (with_reducible repeat (first | refine blk_drewN ?_ _ | refine blk_drew ?_ | refine blk_alloc ?_ _)); refine blk_far ?_ NB160_163.out _; (with_reducible repeat (first | refine blk_drewN ?_ _ | refine blk_drew ?_ | refine blk_alloc ?_ _)); exact BK160.out) hb); have n2_ := Aside0.mk (blk_below (g := gb161) (o := .cells #[.string (⟨#[]⟩ : ByteArray), .string (⟨#[]⟩ : ByteArray), .int .i64 0] 23 (0, 0)) (by (with_reducible repeat (first | refine blk_drewN ?_ _ | refine blk_drew ?_ | refine blk_alloc ?_ _)); refine blk_far ?_ NB161_163.out _; (with_reducible repeat (first | refine blk_drewN ?_ _ | refine blk_drew ?_ | refine blk_alloc ?_ _)); refine blk_far ?_ NB161_163.out _; (with_reducible repeat (first | refine blk_drewN ?_ _ | refine blk_drew ?_ | refine blk_alloc ?_ _)); refine blk_far ?_ NB161_163.out _; (with_reducible repeat (first | refine blk_drewN ?_ _ | refine blk_drew ?_ | refine blk_alloc ?_ _)); exact BK161.out) hb); have n3_ := Aside0.mk (blk_below (g := gb163) (o := .cells #[.string t166, .string t167, .int .i64 t168] 23 (0, 0)) (by (with_reducible repeat (first | refine blk_drewN ?_ _ | refine blk_drew ?_ | refine blk_alloc ?_ _)); refine blk_put (cs := #[.string t166, .string t167, .int .i64 0]) ?_ 2 _ rfl; (with_reducible repeat (first | refine blk_drewN ?_ _ | refine blk_drew ?_ | refine blk_alloc ?_ _)); refine blk_put (cs := #[.string t166, .string (⟨#[]⟩ : ByteArray), .int .i64 0]) ?_ 1 _ rfl; (with_reducible repeat (first | refine blk_drewN ?_ _ | refine blk_drew ?_ | refine blk_alloc ?_ _)); refine blk_put (cs := #[.string (⟨#[]⟩ : ByteArray), .string (⟨#[]⟩ : ByteArray), .int .i64 0]) ?_ 0 _ rfl; (with_reducible repeat (first | refine blk_drewN ?_ _ | refine blk_drew ?_ | refine blk_alloc ?_ _)); exact BK163.out) hb); have n4_ := Aside0.mk (blk_below (g := gb164) (o := .cells #[.string (⟨#[]⟩ : ByteArray), .string (⟨#[]⟩ : ByteArray), .int .i64 0] 23 (0, 0)) (by (with_reducible repeat (first | refine blk_drewN ?_ _ | refine blk_drew ?_ | refine blk_alloc ?_ _)); refine blk_far ?_ NB164_163.out _; (with_reducible repeat (first | refine blk_drewN ?_ _ | refine blk_drew ?_ | refine blk_alloc ?_ _)); refine blk_far ?_ NB164_163.out _; (with_reducible repeat (first | refine blk_drewN ?_ _ | refine blk_drew ?_ | refine blk_alloc ?_ _)); refine blk_far ?_ NB164_163.out _; (with_reducible repeat (first | refine blk_drewN ?_ _ | refine blk_drew ?_ | refine blk_alloc ?_ _)); exact BK164.out) hb); have n5_ := Aside0.mk (below_step (by repeat (first | (with_reducible first | exact HB.out | apply below_alloc | apply pw_below_drewN | apply below_drew1 | refine below_set ?_ GE159.out | refine below_set ?_ GE160.out | refine below_set ?_ GE161.out | refine below_set ?_ GE163.out | refine below_set ?_ GE164.out) | exact HB.out)) hb); clear BK159; clear BK160; clear BK161; clear BK163; clear BK164; clear HB; have BK159 := n0_; have BK160 := n1_; have BK161 := n2_; have BK163 := n3_; have BK164 := n4_; have HB := n5_; clear n0_ n1_ n2_ n3_ n4_ n5_; (try clear hb); (try clear hb2); (try clear hk); (try clear hi); have hnb37 := NB164_160.out; have hnc37 := NB160_164.out; have hnb38 := NB164_161.out; have hnc38 := NB161_164.out; have hcz39_0 : w36.cell? ⟨gb164, 0, none⟩ = some (.string (⟨#[]⟩ : ByteArray)) := (blk_cell BK164.out 0).trans rfl; have hcz39_1 : w36.cell? ⟨gb164, 1, none⟩ = some (.string (⟨#[]⟩ : ByteArray)) := (blk_cell BK164.out 1).trans rfl; have hcz39_2 : w36.cell? ⟨gb164, 2, none⟩ = some (.int .i64 0) := (blk_cell BK164.out 2).trans rfl; have hfz39_0 := blk_frozen BK164.out 0; have hfz39_1 := blk_frozen BK164.out 1; have hfz39_2 := blk_frozen BK164.out 2))
            go_meet
            case rel => exact ⟨_, (0), (t169), (t166), (t167), (t168), (t170), (t171), (t172), (by first | rfl | (simp; done) | (simp [*]; done)), (by first | rfl | (simp; done) | (simp [*]; done)), H', ⟨by have := HJ18.out; first | omega | exact Nat.le_refl _⟩, ⟨by (with_reducible repeat (first | refine blk_drewN ?_ _ | refine blk_drew ?_ | refine blk_alloc ?_ _)); refine blk_far ?_ NB159_164.out _; (with_reducible repeat (first | refine blk_drewN ?_ _ | refine blk_drew ?_ | refine blk_alloc ?_ _)); refine blk_far ?_ NB159_164.out _; (with_reducible repeat (first | refine blk_drewN ?_ _ | refine blk_drew ?_ | refine blk_alloc ?_ _)); refine blk_far ?_ NB159_164.out _; (with_reducible repeat (first | refine blk_drewN ?_ _ | refine blk_drew ?_ | refine blk_alloc ?_ _)); exact BK159.out⟩, ⟨by (with_reducible repeat (first | refine blk_drewN ?_ _ | refine blk_drew ?_ | refine blk_alloc ?_ _)); refine blk_far ?_ NB160_164.out _; (with_reducible repeat (first | refine blk_drewN ?_ _ | refine blk_drew ?_ | refine blk_alloc ?_ _)); refine blk_far ?_ NB160_164.out _; (with_reducible repeat (first | refine blk_drewN ?_ _ | refine blk_drew ?_ | refine blk_alloc ?_ _)); refine blk_far ?_ NB160_164.out _; (with_reducible repeat (first | refine blk_drewN ?_ _ | refine blk_drew ?_ | refine blk_alloc ?_ _)); exact BK160.out⟩, ⟨by (with_reducible repeat (first | refine blk_drewN ?_ _ | refine blk_drew ?_ | refine blk_alloc ?_ _)); refine blk_far ?_ NB161_164.out _; (with_reducible repeat (first | refine blk_drewN ?_ _ | refine blk_drew ?_ | refine blk_alloc ?_ _)); refine blk_far ?_ NB161_164.out _; (with_reducible repeat (first | refine blk_drewN ?_ _ | refine blk_drew ?_ | refine blk_alloc ?_ _)); refine blk_far ?_ NB161_164.out _; (with_reducible repeat (first | refine blk_drewN ?_ _ | refine blk_drew ?_ | refine blk_alloc ?_ _)); exact BK161.out⟩, ⟨by (with_reducible repeat (first | refine blk_drewN ?_ _ | refine blk_drew ?_ | refine blk_alloc ?_ _)); refine blk_far ?_ NB163_164.out _; (with_reducible repeat (first | refine blk_drewN ?_ _ | refine blk_drew ?_ | refine blk_alloc ?_ _)); refine blk_far ?_ NB163_164.out _; (with_reducible repeat (first | refine blk_drewN ?_ _ | refine blk_drew ?_ | refine blk_alloc ?_ _)); refine blk_far ?_ NB163_164.out _; (with_reducible repeat (first | refine blk_drewN ?_ _ | refine blk_drew ?_ | refine blk_alloc ?_ _)); exact BK163.out⟩, ⟨by (with_reducible repeat (first | refine blk_drewN ?_ _ | refine blk_drew ?_ | refine blk_alloc ?_ _)); refine blk_put (cs := #[.string t170, .string t171, .int .i64 0]) ?_ 2 _ rfl; (with_reducible repeat (first | refine blk_drewN ?_ _ | refine blk_drew ?_ | refine blk_alloc ?_ _)); refine blk_put (cs := #[.string t170, .string (⟨#[]⟩ : ByteArray), .int .i64 0]) ?_ 1 _ rfl; (with_reducible repeat (first | refine blk_drewN ?_ _ | refine blk_drew ?_ | refine blk_alloc ?_ _)); refine blk_put (cs := #[.string (⟨#[]⟩ : ByteArray), .string (⟨#[]⟩ : ByteArray), .int .i64 0]) ?_ 0 _ rfl; (with_reducible repeat (first | refine blk_drewN ?_ _ | refine blk_drew ?_ | refine blk_alloc ?_ _)); exact BK164.out⟩, ⟨by repeat (first | (with_reducible first | exact HB.out | apply below_alloc | apply pw_below_drewN | apply below_drew1 | refine below_set ?_ GE159.out | refine below_set ?_ GE160.out | refine below_set ?_ GE161.out | refine below_set ?_ GE163.out | refine below_set ?_ GE164.out) | exact HB.out)⟩⟩
          · replace c23 := Bool.eq_false_iff.mpr c23
            subst c23
            have H1 : (amanuensislaw12_step.j2 kj18 false 1 t169 a0_0 a0_1 a0_2 t166 t167 t168 (⟨#[]⟩ : ByteArray) (⟨#[]⟩ : ByteArray) 0) = some (r1, r2, r3, r4) := by rw [if_neg (show ¬ (false = true) by decide)] at H; exact H
            clear H
            have H := H1
            clear H1
            have H' := Aside0.mk H
            clear H
            have hnb40 := NB159_160.out
            have hnc40 := NB160_159.out
            have hnb41 := NB159_161.out
            have hnc41 := NB161_159.out
            have hnb42 := NB159_163.out
            have hnc42 := NB163_159.out
            have hnb43 := NB159_164.out
            have hnc43 := NB164_159.out
            have hcz44_0 : wc.cell? ⟨gb159, 0, none⟩ = some (.string a0_0) := (blk_cell BK159.out 0).trans rfl
            have hcz44_1 : wc.cell? ⟨gb159, 1, none⟩ = some (.string a0_1) := (blk_cell BK159.out 1).trans rfl
            have hcz44_2 : wc.cell? ⟨gb159, 2, none⟩ = some (.int .i64 a0_2) := (blk_cell BK159.out 2).trans rfl
            have hfz44_0 := blk_frozen BK159.out 0
            have hfz44_1 := blk_frozen BK159.out 1
            have hfz44_2 := blk_frozen BK159.out 2
            go_wp2_with (first | ((with_reducible refine gate_callee (f := 16) rfl ?_); refine goesL_ (some 49) rfl rfl Try.func16 (by kernel_rfl) rfl #[.agg #[.string a0_0, .string a0_1, .int .i64 a0_2]] rfl (by (try simp only [List.map_toArray, List.map_cons, List.map_nil]); first | done | rfl | (simp only [List.length_drop, List.length_take]; rfl)) ?_; (with_reducible refine (file_Sync.calls a0_0 a0_1 a0_2 t166 t167 t168 t169 _ A22.out).mono ?_); rintro e w45 ⟨rfl, hb⟩; refine ⟨_, rfl, ?_⟩; have n0_ := Aside0.mk (blk_below (g := gb159) (o := .cells #[.string a0_0, .string a0_1, .int .i64 a0_2] 23 (0, 0)) (by (with_reducible repeat (first | refine blk_drewN ?_ _ | refine blk_drew ?_ | refine blk_alloc ?_ _)); exact BK159.out) hb); have n1_ := Aside0.mk (blk_below (g := gb160) (o := .cells #[.int .i64 a1_0, .int .i64 a1_1, .string a1_2] 32 (0, 0)) (by (with_reducible repeat (first | refine blk_drewN ?_ _ | refine blk_drew ?_ | refine blk_alloc ?_ _)); exact BK160.out) hb); have n2_ := Aside0.mk (blk_below (g := gb161) (o := .cells #[.string (⟨#[]⟩ : ByteArray), .string (⟨#[]⟩ : ByteArray), .int .i64 0] 23 (0, 0)) (by (with_reducible repeat (first | refine blk_drewN ?_ _ | refine blk_drew ?_ | refine blk_alloc ?_ _)); exact BK161.out) hb); have n3_ := Aside0.mk (blk_below (g := gb163) (o := .cells #[.string (⟨#[]⟩ : ByteArray), .string (⟨#[]⟩ : ByteArray), .int .i64 0] 23 (0, 0)) (by (with_reducible repeat (first | refine blk_drewN ?_ _ | refine blk_drew ?_ | refine blk_alloc ?_ _)); exact BK163.out) hb); have n4_ := Aside0.mk (blk_below (g := gb164) (o := .cells #[.string (⟨#[]⟩ : ByteArray), .string (⟨#[]⟩ : ByteArray), .int .i64 0] 23 (0, 0)) (by (with_reducible repeat (first | refine blk_drewN ?_ _ | refine blk_drew ?_ | refine blk_alloc ?_ _)); exact BK164.out) hb); have n5_ := Aside0.mk (below_step (by repeat (first | (with_reducible first | exact HB.out | apply below_alloc | apply pw_below_drewN | apply below_drew1 | refine below_set ?_ GE159.out | refine below_set ?_ GE160.out | refine below_set ?_ GE161.out | refine below_set ?_ GE163.out | refine below_set ?_ GE164.out) | exact HB.out)) hb); clear BK159; clear BK160; clear BK161; clear BK163; clear BK164; clear HB; have BK159 := n0_; have BK160 := n1_; have BK161 := n2_; have BK163 := n3_; have BK164 := n4_; have HB := n5_; clear n0_ n1_ n2_ n3_ n4_ n5_; (try clear hb); (try clear hb2); (try clear hk); (try clear hi); have hnb46 := NB163_160.out; have hnc46 := NB160_163.out; have hnb47 := NB163_161.out; have hnc47 := NB161_163.out; have hnb48 := NB163_164.out; have hnc48 := NB164_163.out; have hcz49_0 : w45.cell? ⟨gb163, 0, none⟩ = some (.string (⟨#[]⟩ : ByteArray)) := (blk_cell BK163.out 0).trans rfl; have hcz49_1 : w45.cell? ⟨gb163, 1, none⟩ = some (.string (⟨#[]⟩ : ByteArray)) := (blk_cell BK163.out 1).trans rfl; have hcz49_2 : w45.cell? ⟨gb163, 2, none⟩ = some (.int .i64 0) := (blk_cell BK163.out 2).trans rfl; have hfz49_0 := blk_frozen BK163.out 0; have hfz49_1 := blk_frozen BK163.out 1; have hfz49_2 := blk_frozen BK163.out 2))
            go_meet
            case rel => exact ⟨_, (1), (t169), (t166), (t167), (t168), ((⟨#[]⟩ : ByteArray)), ((⟨#[]⟩ : ByteArray)), (0), (by first | rfl | (simp; done) | (simp [*]; done)), (by first | rfl | (simp; done) | (simp [*]; done)), H', ⟨by have := HJ18.out; first | omega | exact Nat.le_refl _⟩, ⟨by (with_reducible repeat (first | refine blk_drewN ?_ _ | refine blk_drew ?_ | refine blk_alloc ?_ _)); refine blk_far ?_ NB159_163.out _; (with_reducible repeat (first | refine blk_drewN ?_ _ | refine blk_drew ?_ | refine blk_alloc ?_ _)); refine blk_far ?_ NB159_163.out _; (with_reducible repeat (first | refine blk_drewN ?_ _ | refine blk_drew ?_ | refine blk_alloc ?_ _)); refine blk_far ?_ NB159_163.out _; (with_reducible repeat (first | refine blk_drewN ?_ _ | refine blk_drew ?_ | refine blk_alloc ?_ _)); exact BK159.out⟩, ⟨by (with_reducible repeat (first | refine blk_drewN ?_ _ | refine blk_drew ?_ | refine blk_alloc ?_ _)); refine blk_far ?_ NB160_163.out _; (with_reducible repeat (first | refine blk_drewN ?_ _ | refine blk_drew ?_ | refine blk_alloc ?_ _)); refine blk_far ?_ NB160_163.out _; (with_reducible repeat (first | refine blk_drewN ?_ _ | refine blk_drew ?_ | refine blk_alloc ?_ _)); refine blk_far ?_ NB160_163.out _; (with_reducible repeat (first | refine blk_drewN ?_ _ | refine blk_drew ?_ | refine blk_alloc ?_ _)); exact BK160.out⟩, ⟨by (with_reducible repeat (first | refine blk_drewN ?_ _ | refine blk_drew ?_ | refine blk_alloc ?_ _)); refine blk_far ?_ NB161_163.out _; (with_reducible repeat (first | refine blk_drewN ?_ _ | refine blk_drew ?_ | refine blk_alloc ?_ _)); refine blk_far ?_ NB161_163.out _; (with_reducible repeat (first | refine blk_drewN ?_ _ | refine blk_drew ?_ | refine blk_alloc ?_ _)); refine blk_far ?_ NB161_163.out _; (with_reducible repeat (first | refine blk_drewN ?_ _ | refine blk_drew ?_ | refine blk_alloc ?_ _)); exact BK161.out⟩, ⟨by (with_reducible repeat (first | refine blk_drewN ?_ _ | refine blk_drew ?_ | refine blk_alloc ?_ _)); refine blk_put (cs := #[.string t166, .string t167, .int .i64 0]) ?_ 2 _ rfl; (with_reducible repeat (first | refine blk_drewN ?_ _ | refine blk_drew ?_ | refine blk_alloc ?_ _)); refine blk_put (cs := #[.string t166, .string (⟨#[]⟩ : ByteArray), .int .i64 0]) ?_ 1 _ rfl; (with_reducible repeat (first | refine blk_drewN ?_ _ | refine blk_drew ?_ | refine blk_alloc ?_ _)); refine blk_put (cs := #[.string (⟨#[]⟩ : ByteArray), .string (⟨#[]⟩ : ByteArray), .int .i64 0]) ?_ 0 _ rfl; (with_reducible repeat (first | refine blk_drewN ?_ _ | refine blk_drew ?_ | refine blk_alloc ?_ _)); exact BK163.out⟩, ⟨by (with_reducible repeat (first | refine blk_drewN ?_ _ | refine blk_drew ?_ | refine blk_alloc ?_ _)); refine blk_far ?_ NB164_163.out _; (with_reducible repeat (first | refine blk_drewN ?_ _ | refine blk_drew ?_ | refine blk_alloc ?_ _)); refine blk_far ?_ NB164_163.out _; (with_reducible repeat (first | refine blk_drewN ?_ _ | refine blk_drew ?_ | refine blk_alloc ?_ _)); refine blk_far ?_ NB164_163.out _; (with_reducible repeat (first | refine blk_drewN ?_ _ | refine blk_drew ?_ | refine blk_alloc ?_ _)); exact BK164.out⟩, ⟨by repeat (first | (with_reducible first | exact HB.out | apply below_alloc | apply pw_below_drewN | apply below_drew1 | refine below_set ?_ GE159.out | refine below_set ?_ GE160.out | refine below_set ?_ GE161.out | refine below_set ?_ GE163.out | refine below_set ?_ GE164.out) | exact HB.out)⟩⟩
        · replace c21 := Bool.eq_false_iff.mpr c21
          subst c21
          have H1 : (if t165 = 5 then ((file_Crash.f a0_0 a0_1 a0_2 a1_1).bind fun bt173 => (if t162 = true then ((amanuensisref9_Crash.f a0_0 a0_1 a0_2 a1_1).bind fun bt177 => (amanuensislaw12_step.j2 kj18 t162 0 bt173.2.2.2 a0_0 a0_1 a0_2 bt173.1 bt173.2.1 bt173.2.2.1 bt177.1 bt177.2.1 bt177.2.2)) else (amanuensislaw12_step.j2 kj18 t162 1 bt173.2.2.2 a0_0 a0_1 a0_2 bt173.1 bt173.2.1 bt173.2.2.1 (⟨#[]⟩ : ByteArray) (⟨#[]⟩ : ByteArray) 0))) else (if t165 = 6 then ((file_Cut.f kj18 a0_0 a0_1 a0_2 a1_1).bind fun bt180 => (if t162 = true then ((amanuensisref0_Num.f a1_1 (a0_0.size : Int)).bind fun t184 => (amanuensislaw12_step.j1 kj18 t162 1 bt180.2.2.2 t184 a0_0 a0_1 a0_2 a1_0 a1_1 a1_2 bt180.1 bt180.2.1 bt180.2.2.1 (⟨#[]⟩ : ByteArray) (⟨#[]⟩ : ByteArray) 0)) else (amanuensislaw12_step.j1 kj18 t162 1 bt180.2.2.2 false a0_0 a0_1 a0_2 a1_0 a1_1 a1_2 bt180.1 bt180.2.1 bt180.2.2.1 (⟨#[]⟩ : ByteArray) (⟨#[]⟩ : ByteArray) 0))) else ((file_Append.f a0_0 a0_1 a0_2 a1_2).bind fun bt185 => (if t162 = true then ((amanuensisref9_Free.f a0_0 a0_1 a0_2).bind fun t189 => (if (a1_2.size : Int) ≤ t189 then (if a0_1.size + a1_2.size ≤ 9223372036854775807 then (amanuensislaw12_step.j2 kj18 t162 0 bt185.2.2.2 a0_0 a0_1 a0_2 bt185.1 bt185.2.1 bt185.2.2.1 a0_0 (a0_1 ++ a1_2) a0_2) else (none)) else (amanuensislaw12_step.j2 kj18 t162 7 bt185.2.2.2 a0_0 a0_1 a0_2 bt185.1 bt185.2.1 bt185.2.2.1 (⟨#[]⟩ : ByteArray) (⟨#[]⟩ : ByteArray) 0))) else (amanuensislaw12_step.j2 kj18 t162 1 bt185.2.2.2 a0_0 a0_1 a0_2 bt185.1 bt185.2.1 bt185.2.2.1 (⟨#[]⟩ : ByteArray) (⟨#[]⟩ : ByteArray) 0))))) = some (r1, r2, r3, r4) := by rw [if_neg (show ¬ (false = true) by decide)] at H; exact H
          clear H
          have H := H1
          clear H1
          by_cases c50 : t165 = 5
          · rw [if_pos c50] at H
            have c50b0 : (t165 == 5) = true := beq_iff_eq.mpr c50
            have c50b1 : (t165 != 5) = false := bne_eq_false_iff_eq.mpr c50
            clear c50
            replace H := Option.bind_eq_some_iff.mp H
            obtain ⟨⟨t173, t174, t175, t176⟩, A510, H⟩ := H
            replace H : (if t162 = true then ((amanuensisref9_Crash.f a0_0 a0_1 a0_2 a1_1).bind fun bt177 => (amanuensislaw12_step.j2 kj18 t162 0 t176 a0_0 a0_1 a0_2 t173 t174 t175 bt177.1 bt177.2.1 bt177.2.2)) else (amanuensislaw12_step.j2 kj18 t162 1 t176 a0_0 a0_1 a0_2 t173 t174 t175 (⟨#[]⟩ : ByteArray) (⟨#[]⟩ : ByteArray) 0)) = some (r1, r2, r3, r4) := H
            have A51 := Aside0.mk A510
            clear A510
            by_cases c52 : t162 = true
            · subst c52
              have H1 : ((amanuensisref9_Crash.f a0_0 a0_1 a0_2 a1_1).bind fun bt177 => (amanuensislaw12_step.j2 kj18 true 0 t176 a0_0 a0_1 a0_2 t173 t174 t175 bt177.1 bt177.2.1 bt177.2.2)) = some (r1, r2, r3, r4) := by rw [if_pos rfl] at H; exact H
              clear H
              have H := H1
              clear H1
              replace H := Option.bind_eq_some_iff.mp H
              obtain ⟨⟨t177, t178, t179⟩, A530, H⟩ := H
              replace H : (amanuensislaw12_step.j2 kj18 true 0 t176 a0_0 a0_1 a0_2 t173 t174 t175 t177 t178 t179) = some (r1, r2, r3, r4) := H
              have A53 := Aside0.mk A530
              clear A530
              have H' := Aside0.mk H
              clear H
              have hnb54 := NB159_160.out
              have hnc54 := NB160_159.out
              have hnb55 := NB159_161.out
              have hnc55 := NB161_159.out
              have hnb56 := NB159_163.out
              have hnc56 := NB163_159.out
              have hnb57 := NB159_164.out
              have hnc57 := NB164_159.out
              have hcz58_0 : wc.cell? ⟨gb159, 0, none⟩ = some (.string a0_0) := (blk_cell BK159.out 0).trans rfl
              have hcz58_1 : wc.cell? ⟨gb159, 1, none⟩ = some (.string a0_1) := (blk_cell BK159.out 1).trans rfl
              have hcz58_2 : wc.cell? ⟨gb159, 2, none⟩ = some (.int .i64 a0_2) := (blk_cell BK159.out 2).trans rfl
              have hfz58_0 := blk_frozen BK159.out 0
              have hfz58_1 := blk_frozen BK159.out 1
              have hfz58_2 := blk_frozen BK159.out 2
              have hnb59 := NB160_161.out
              have hnc59 := NB161_160.out
              have hnb60 := NB160_163.out
              have hnc60 := NB163_160.out
              have hnb61 := NB160_164.out
              have hnc61 := NB164_160.out
              have hcz62_0 : wc.cell? ⟨gb160, 0, none⟩ = some (.int .i64 a1_0) := (blk_cell BK160.out 0).trans rfl
              have hcz62_1 : wc.cell? ⟨gb160, 1, none⟩ = some (.int .i64 a1_1) := (blk_cell BK160.out 1).trans rfl
              have hcz62_2 : wc.cell? ⟨gb160, 2, none⟩ = some (.string a1_2) := (blk_cell BK160.out 2).trans rfl
              have hfz62_0 := blk_frozen BK160.out 0
              have hfz62_1 := blk_frozen BK160.out 1
              have hfz62_2 := blk_frozen BK160.out 2
              go_wp2_with (first | ((with_reducible refine gate_callee (f := 15) rfl ?_); refine goesL_ (some 61) rfl rfl Try.func15 (by kernel_rfl) rfl #[.agg #[.string a0_0, .string a0_1, .int .i64 a0_2], .int .i64 a1_1] rfl (by (try simp only [List.map_toArray, List.map_cons, List.map_nil]); first | done | rfl | (simp only [List.length_drop, List.length_take]; rfl)) ?_; (with_reducible refine (file_Crash.calls a0_0 a0_1 a0_2 a1_1 t173 t174 t175 t176 _ A51.out).mono ?_); rintro e w63 ⟨rfl, hb⟩; refine ⟨_, rfl, ?_⟩; have n0_ := Aside0.mk (blk_below (g := gb159) (o := .cells #[.string a0_0, .string a0_1, .int .i64 a0_2] 23 (0, 0)) (by (with_reducible repeat (first | refine blk_drewN ?_ _ | refine blk_drew ?_ | refine blk_alloc ?_ _)); exact BK159.out) hb); have n1_ := Aside0.mk (blk_below (g := gb160) (o := .cells #[.int .i64 a1_0, .int .i64 a1_1, .string a1_2] 32 (0, 0)) (by (with_reducible repeat (first | refine blk_drewN ?_ _ | refine blk_drew ?_ | refine blk_alloc ?_ _)); exact BK160.out) hb); have n2_ := Aside0.mk (blk_below (g := gb161) (o := .cells #[.string (⟨#[]⟩ : ByteArray), .string (⟨#[]⟩ : ByteArray), .int .i64 0] 23 (0, 0)) (by (with_reducible repeat (first | refine blk_drewN ?_ _ | refine blk_drew ?_ | refine blk_alloc ?_ _)); exact BK161.out) hb); have n3_ := Aside0.mk (blk_below (g := gb163) (o := .cells #[.string (⟨#[]⟩ : ByteArray), .string (⟨#[]⟩ : ByteArray), .int .i64 0] 23 (0, 0)) (by (with_reducible repeat (first | refine blk_drewN ?_ _ | refine blk_drew ?_ | refine blk_alloc ?_ _)); exact BK163.out) hb); have n4_ := Aside0.mk (blk_below (g := gb164) (o := .cells #[.string (⟨#[]⟩ : ByteArray), .string (⟨#[]⟩ : ByteArray), .int .i64 0] 23 (0, 0)) (by (with_reducible repeat (first | refine blk_drewN ?_ _ | refine blk_drew ?_ | refine blk_alloc ?_ _)); exact BK164.out) hb); have n5_ := Aside0.mk (below_step (by repeat (first | (with_reducible first | exact HB.out | apply below_alloc | apply pw_below_drewN | apply below_drew1 | refine below_set ?_ GE159.out | refine below_set ?_ GE160.out | refine below_set ?_ GE161.out | refine below_set ?_ GE163.out | refine below_set ?_ GE164.out) | exact HB.out)) hb); clear BK159; clear BK160; clear BK161; clear BK163; clear BK164; clear HB; have BK159 := n0_; have BK160 := n1_; have BK161 := n2_; have BK163 := n3_; have BK164 := n4_; have HB := n5_; clear n0_ n1_ n2_ n3_ n4_ n5_; (try clear hb); (try clear hb2); (try clear hk); (try clear hi); have hnb64 := NB163_161.out; have hnc64 := NB161_163.out; have hnb65 := NB163_164.out; have hnc65 := NB164_163.out; have hcz66_0 : w63.cell? ⟨gb163, 0, none⟩ = some (.string (⟨#[]⟩ : ByteArray)) := (blk_cell BK163.out 0).trans rfl; have hcz66_1 : w63.cell? ⟨gb163, 1, none⟩ = some (.string (⟨#[]⟩ : ByteArray)) := (blk_cell BK163.out 1).trans rfl; have hcz66_2 : w63.cell? ⟨gb163, 2, none⟩ = some (.int .i64 0) := (blk_cell BK163.out 2).trans rfl; have hfz66_0 := blk_frozen BK163.out 0; have hfz66_1 := blk_frozen BK163.out 1; have hfz66_2 := blk_frozen BK163.out 2; have hcz67_0 : w63.cell? ⟨gb159, 0, none⟩ = some (.string a0_0) := (blk_cell BK159.out 0).trans rfl; have hcz67_1 : w63.cell? ⟨gb159, 1, none⟩ = some (.string a0_1) := (blk_cell BK159.out 1).trans rfl; have hcz67_2 : w63.cell? ⟨gb159, 2, none⟩ = some (.int .i64 a0_2) := (blk_cell BK159.out 2).trans rfl; have hfz67_0 := blk_frozen BK159.out 0; have hfz67_1 := blk_frozen BK159.out 1; have hfz67_2 := blk_frozen BK159.out 2; have hcz68_0 : w63.cell? ⟨gb160, 0, none⟩ = some (.int .i64 a1_0) := (blk_cell BK160.out 0).trans rfl; have hcz68_1 : w63.cell? ⟨gb160, 1, none⟩ = some (.int .i64 a1_1) := (blk_cell BK160.out 1).trans rfl; have hcz68_2 : w63.cell? ⟨gb160, 2, none⟩ = some (.string a1_2) := (blk_cell BK160.out 2).trans rfl; have hfz68_0 := blk_frozen BK160.out 0; have hfz68_1 := blk_frozen BK160.out 1; have hfz68_2 := blk_frozen BK160.out 2) | ((with_reducible refine gate_callee (f := 40) rfl ?_); refine goesL_ (some 68) rfl rfl Try.func40 (by kernel_rfl) rfl #[.agg #[.string a0_0, .string a0_1, .int .i64 a0_2], .int .i64 a1_1] rfl (by (try simp only [List.map_toArray, List.map_cons, List.map_nil]); first | done | rfl | (simp only [List.length_drop, List.length_take]; rfl)) ?_; (with_reducible refine (amanuensisref9_Crash.calls a0_0 a0_1 a0_2 a1_1 t177 t178 t179 _ A53.out).mono ?_); rintro e w69 ⟨rfl, hb⟩; refine ⟨_, rfl, ?_⟩; have n0_ := Aside0.mk (blk_below (g := gb159) (o := .cells #[.string a0_0, .string a0_1, .int .i64 a0_2] 23 (0, 0)) (by (with_reducible repeat (first | refine blk_drewN ?_ _ | refine blk_drew ?_ | refine blk_alloc ?_ _)); refine blk_far ?_ NB159_163.out _; (with_reducible repeat (first | refine blk_drewN ?_ _ | refine blk_drew ?_ | refine blk_alloc ?_ _)); refine blk_far ?_ NB159_163.out _; (with_reducible repeat (first | refine blk_drewN ?_ _ | refine blk_drew ?_ | refine blk_alloc ?_ _)); refine blk_far ?_ NB159_163.out _; (with_reducible repeat (first | refine blk_drewN ?_ _ | refine blk_drew ?_ | refine blk_alloc ?_ _)); exact BK159.out) hb); have n1_ := Aside0.mk (blk_below (g := gb160) (o := .cells #[.int .i64 a1_0, .int .i64 a1_1, .string a1_2] 32 (0, 0)) (by (with_reducible repeat (first | refine blk_drewN ?_ _ | refine blk_drew ?_ | refine blk_alloc ?_ _)); refine blk_far ?_ NB160_163.out _; (with_reducible repeat (first | refine blk_drewN ?_ _ | refine blk_drew ?_ | refine blk_alloc ?_ _)); refine blk_far ?_ NB160_163.out _; (with_reducible repeat (first | refine blk_drewN ?_ _ | refine blk_drew ?_ | refine blk_alloc ?_ _)); refine blk_far ?_ NB160_163.out _; (with_reducible repeat (first | refine blk_drewN ?_ _ | refine blk_drew ?_ | refine blk_alloc ?_ _)); exact BK160.out) hb); have n2_ := Aside0.mk (blk_below (g := gb161) (o := .cells #[.string (⟨#[]⟩ : ByteArray), .string (⟨#[]⟩ : ByteArray), .int .i64 0] 23 (0, 0)) (by (with_reducible repeat (first | refine blk_drewN ?_ _ | refine blk_drew ?_ | refine blk_alloc ?_ _)); refine blk_far ?_ NB161_163.out _; (with_reducible repeat (first | refine blk_drewN ?_ _ | refine blk_drew ?_ | refine blk_alloc ?_ _)); refine blk_far ?_ NB161_163.out _; (with_reducible repeat (first | refine blk_drewN ?_ _ | refine blk_drew ?_ | refine blk_alloc ?_ _)); refine blk_far ?_ NB161_163.out _; (with_reducible repeat (first | refine blk_drewN ?_ _ | refine blk_drew ?_ | refine blk_alloc ?_ _)); exact BK161.out) hb); have n3_ := Aside0.mk (blk_below (g := gb163) (o := .cells #[.string t173, .string t174, .int .i64 t175] 23 (0, 0)) (by (with_reducible repeat (first | refine blk_drewN ?_ _ | refine blk_drew ?_ | refine blk_alloc ?_ _)); refine blk_put (cs := #[.string t173, .string t174, .int .i64 0]) ?_ 2 _ rfl; (with_reducible repeat (first | refine blk_drewN ?_ _ | refine blk_drew ?_ | refine blk_alloc ?_ _)); refine blk_put (cs := #[.string t173, .string (⟨#[]⟩ : ByteArray), .int .i64 0]) ?_ 1 _ rfl; (with_reducible repeat (first | refine blk_drewN ?_ _ | refine blk_drew ?_ | refine blk_alloc ?_ _)); refine blk_put (cs := #[.string (⟨#[]⟩ : ByteArray), .string (⟨#[]⟩ : ByteArray), .int .i64 0]) ?_ 0 _ rfl; (with_reducible repeat (first | refine blk_drewN ?_ _ | refine blk_drew ?_ | refine blk_alloc ?_ _)); exact BK163.out) hb); have n4_ := Aside0.mk (blk_below (g := gb164) (o := .cells #[.string (⟨#[]⟩ : ByteArray), .string (⟨#[]⟩ : ByteArray), .int .i64 0] 23 (0, 0)) (by (with_reducible repeat (first | refine blk_drewN ?_ _ | refine blk_drew ?_ | refine blk_alloc ?_ _)); refine blk_far ?_ NB164_163.out _; (with_reducible repeat (first | refine blk_drewN ?_ _ | refine blk_drew ?_ | refine blk_alloc ?_ _)); refine blk_far ?_ NB164_163.out _; (with_reducible repeat (first | refine blk_drewN ?_ _ | refine blk_drew ?_ | refine blk_alloc ?_ _)); refine blk_far ?_ NB164_163.out _; (with_reducible repeat (first | refine blk_drewN ?_ _ | refine blk_drew ?_ | refine blk_alloc ?_ _)); exact BK164.out) hb); have n5_ := Aside0.mk (below_step (by repeat (first | (with_reducible first | exact HB.out | apply below_alloc | apply pw_below_drewN | apply below_drew1 | refine below_set ?_ GE159.out | refine below_set ?_ GE160.out | refine below_set ?_ GE161.out | refine below_set ?_ GE163.out | refine below_set ?_ GE164.out) | exact HB.out)) hb); clear BK159; clear BK160; clear BK161; clear BK163; clear BK164; clear HB; have BK159 := n0_; have BK160 := n1_; have BK161 := n2_; have BK163 := n3_; have BK164 := n4_; have HB := n5_; clear n0_ n1_ n2_ n3_ n4_ n5_; (try clear hb); (try clear hb2); (try clear hk); (try clear hi); have hnb70 := NB164_161.out; have hnc70 := NB161_164.out; have hcz71_0 : w69.cell? ⟨gb164, 0, none⟩ = some (.string (⟨#[]⟩ : ByteArray)) := (blk_cell BK164.out 0).trans rfl; have hcz71_1 : w69.cell? ⟨gb164, 1, none⟩ = some (.string (⟨#[]⟩ : ByteArray)) := (blk_cell BK164.out 1).trans rfl; have hcz71_2 : w69.cell? ⟨gb164, 2, none⟩ = some (.int .i64 0) := (blk_cell BK164.out 2).trans rfl; have hfz71_0 := blk_frozen BK164.out 0; have hfz71_1 := blk_frozen BK164.out 1; have hfz71_2 := blk_frozen BK164.out 2))
              go_meet
              case rel => exact ⟨_, (0), (t176), (t173), (t174), (t175), (t177), (t178), (t179), (by first | rfl | (simp; done) | (simp [*]; done)), (by first | rfl | (simp; done) | (simp [*]; done)), H', ⟨by have := HJ18.out; first | omega | exact Nat.le_refl _⟩, ⟨by (with_reducible repeat (first | refine blk_drewN ?_ _ | refine blk_drew ?_ | refine blk_alloc ?_ _)); refine blk_far ?_ NB159_164.out _; (with_reducible repeat (first | refine blk_drewN ?_ _ | refine blk_drew ?_ | refine blk_alloc ?_ _)); refine blk_far ?_ NB159_164.out _; (with_reducible repeat (first | refine blk_drewN ?_ _ | refine blk_drew ?_ | refine blk_alloc ?_ _)); refine blk_far ?_ NB159_164.out _; (with_reducible repeat (first | refine blk_drewN ?_ _ | refine blk_drew ?_ | refine blk_alloc ?_ _)); exact BK159.out⟩, ⟨by (with_reducible repeat (first | refine blk_drewN ?_ _ | refine blk_drew ?_ | refine blk_alloc ?_ _)); refine blk_far ?_ NB160_164.out _; (with_reducible repeat (first | refine blk_drewN ?_ _ | refine blk_drew ?_ | refine blk_alloc ?_ _)); refine blk_far ?_ NB160_164.out _; (with_reducible repeat (first | refine blk_drewN ?_ _ | refine blk_drew ?_ | refine blk_alloc ?_ _)); refine blk_far ?_ NB160_164.out _; (with_reducible repeat (first | refine blk_drewN ?_ _ | refine blk_drew ?_ | refine blk_alloc ?_ _)); exact BK160.out⟩, ⟨by (with_reducible repeat (first | refine blk_drewN ?_ _ | refine blk_drew ?_ | refine blk_alloc ?_ _)); refine blk_far ?_ NB161_164.out _; (with_reducible repeat (first | refine blk_drewN ?_ _ | refine blk_drew ?_ | refine blk_alloc ?_ _)); refine blk_far ?_ NB161_164.out _; (with_reducible repeat (first | refine blk_drewN ?_ _ | refine blk_drew ?_ | refine blk_alloc ?_ _)); refine blk_far ?_ NB161_164.out _; (with_reducible repeat (first | refine blk_drewN ?_ _ | refine blk_drew ?_ | refine blk_alloc ?_ _)); exact BK161.out⟩, ⟨by (with_reducible repeat (first | refine blk_drewN ?_ _ | refine blk_drew ?_ | refine blk_alloc ?_ _)); refine blk_far ?_ NB163_164.out _; (with_reducible repeat (first | refine blk_drewN ?_ _ | refine blk_drew ?_ | refine blk_alloc ?_ _)); refine blk_far ?_ NB163_164.out _; (with_reducible repeat (first | refine blk_drewN ?_ _ | refine blk_drew ?_ | refine blk_alloc ?_ _)); refine blk_far ?_ NB163_164.out _; (with_reducible repeat (first | refine blk_drewN ?_ _ | refine blk_drew ?_ | refine blk_alloc ?_ _)); exact BK163.out⟩, ⟨by (with_reducible repeat (first | refine blk_drewN ?_ _ | refine blk_drew ?_ | refine blk_alloc ?_ _)); refine blk_put (cs := #[.string t177, .string t178, .int .i64 0]) ?_ 2 _ rfl; (with_reducible repeat (first | refine blk_drewN ?_ _ | refine blk_drew ?_ | refine blk_alloc ?_ _)); refine blk_put (cs := #[.string t177, .string (⟨#[]⟩ : ByteArray), .int .i64 0]) ?_ 1 _ rfl; (with_reducible repeat (first | refine blk_drewN ?_ _ | refine blk_drew ?_ | refine blk_alloc ?_ _)); refine blk_put (cs := #[.string (⟨#[]⟩ : ByteArray), .string (⟨#[]⟩ : ByteArray), .int .i64 0]) ?_ 0 _ rfl; (with_reducible repeat (first | refine blk_drewN ?_ _ | refine blk_drew ?_ | refine blk_alloc ?_ _)); exact BK164.out⟩, ⟨by repeat (first | (with_reducible first | exact HB.out | apply below_alloc | apply pw_below_drewN | apply below_drew1 | refine below_set ?_ GE159.out | refine below_set ?_ GE160.out | refine below_set ?_ GE161.out | refine below_set ?_ GE163.out | refine below_set ?_ GE164.out) | exact HB.out)⟩⟩
            · replace c52 := Bool.eq_false_iff.mpr c52
              subst c52
              have H1 : (amanuensislaw12_step.j2 kj18 false 1 t176 a0_0 a0_1 a0_2 t173 t174 t175 (⟨#[]⟩ : ByteArray) (⟨#[]⟩ : ByteArray) 0) = some (r1, r2, r3, r4) := by rw [if_neg (show ¬ (false = true) by decide)] at H; exact H
              clear H
              have H := H1
              clear H1
              have H' := Aside0.mk H
              clear H
              have hnb72 := NB159_160.out
              have hnc72 := NB160_159.out
              have hnb73 := NB159_161.out
              have hnc73 := NB161_159.out
              have hnb74 := NB159_163.out
              have hnc74 := NB163_159.out
              have hnb75 := NB159_164.out
              have hnc75 := NB164_159.out
              have hcz76_0 : wc.cell? ⟨gb159, 0, none⟩ = some (.string a0_0) := (blk_cell BK159.out 0).trans rfl
              have hcz76_1 : wc.cell? ⟨gb159, 1, none⟩ = some (.string a0_1) := (blk_cell BK159.out 1).trans rfl
              have hcz76_2 : wc.cell? ⟨gb159, 2, none⟩ = some (.int .i64 a0_2) := (blk_cell BK159.out 2).trans rfl
              have hfz76_0 := blk_frozen BK159.out 0
              have hfz76_1 := blk_frozen BK159.out 1
              have hfz76_2 := blk_frozen BK159.out 2
              have hnb77 := NB160_161.out
              have hnc77 := NB161_160.out
              have hnb78 := NB160_163.out
              have hnc78 := NB163_160.out
              have hnb79 := NB160_164.out
              have hnc79 := NB164_160.out
              have hcz80_0 : wc.cell? ⟨gb160, 0, none⟩ = some (.int .i64 a1_0) := (blk_cell BK160.out 0).trans rfl
              have hcz80_1 : wc.cell? ⟨gb160, 1, none⟩ = some (.int .i64 a1_1) := (blk_cell BK160.out 1).trans rfl
              have hcz80_2 : wc.cell? ⟨gb160, 2, none⟩ = some (.string a1_2) := (blk_cell BK160.out 2).trans rfl
              have hfz80_0 := blk_frozen BK160.out 0
              have hfz80_1 := blk_frozen BK160.out 1
              have hfz80_2 := blk_frozen BK160.out 2
              go_wp2_with (first | ((with_reducible refine gate_callee (f := 15) rfl ?_); refine goesL_ (some 61) rfl rfl Try.func15 (by kernel_rfl) rfl #[.agg #[.string a0_0, .string a0_1, .int .i64 a0_2], .int .i64 a1_1] rfl (by (try simp only [List.map_toArray, List.map_cons, List.map_nil]); first | done | rfl | (simp only [List.length_drop, List.length_take]; rfl)) ?_; (with_reducible refine (file_Crash.calls a0_0 a0_1 a0_2 a1_1 t173 t174 t175 t176 _ A51.out).mono ?_); rintro e w81 ⟨rfl, hb⟩; refine ⟨_, rfl, ?_⟩; have n0_ := Aside0.mk (blk_below (g := gb159) (o := .cells #[.string a0_0, .string a0_1, .int .i64 a0_2] 23 (0, 0)) (by (with_reducible repeat (first | refine blk_drewN ?_ _ | refine blk_drew ?_ | refine blk_alloc ?_ _)); exact BK159.out) hb); have n1_ := Aside0.mk (blk_below (g := gb160) (o := .cells #[.int .i64 a1_0, .int .i64 a1_1, .string a1_2] 32 (0, 0)) (by (with_reducible repeat (first | refine blk_drewN ?_ _ | refine blk_drew ?_ | refine blk_alloc ?_ _)); exact BK160.out) hb); have n2_ := Aside0.mk (blk_below (g := gb161) (o := .cells #[.string (⟨#[]⟩ : ByteArray), .string (⟨#[]⟩ : ByteArray), .int .i64 0] 23 (0, 0)) (by (with_reducible repeat (first | refine blk_drewN ?_ _ | refine blk_drew ?_ | refine blk_alloc ?_ _)); exact BK161.out) hb); have n3_ := Aside0.mk (blk_below (g := gb163) (o := .cells #[.string (⟨#[]⟩ : ByteArray), .string (⟨#[]⟩ : ByteArray), .int .i64 0] 23 (0, 0)) (by (with_reducible repeat (first | refine blk_drewN ?_ _ | refine blk_drew ?_ | refine blk_alloc ?_ _)); exact BK163.out) hb); have n4_ := Aside0.mk (blk_below (g := gb164) (o := .cells #[.string (⟨#[]⟩ : ByteArray), .string (⟨#[]⟩ : ByteArray), .int .i64 0] 23 (0, 0)) (by (with_reducible repeat (first | refine blk_drewN ?_ _ | refine blk_drew ?_ | refine blk_alloc ?_ _)); exact BK164.out) hb); have n5_ := Aside0.mk (below_step (by repeat (first | (with_reducible first | exact HB.out | apply below_alloc | apply pw_below_drewN | apply below_drew1 | refine below_set ?_ GE159.out | refine below_set ?_ GE160.out | refine below_set ?_ GE161.out | refine below_set ?_ GE163.out | refine below_set ?_ GE164.out) | exact HB.out)) hb); clear BK159; clear BK160; clear BK161; clear BK163; clear BK164; clear HB; have BK159 := n0_; have BK160 := n1_; have BK161 := n2_; have BK163 := n3_; have BK164 := n4_; have HB := n5_; clear n0_ n1_ n2_ n3_ n4_ n5_; (try clear hb); (try clear hb2); (try clear hk); (try clear hi); have hnb82 := NB163_161.out; have hnc82 := NB161_163.out; have hnb83 := NB163_164.out; have hnc83 := NB164_163.out; have hcz84_0 : w81.cell? ⟨gb163, 0, none⟩ = some (.string (⟨#[]⟩ : ByteArray)) := (blk_cell BK163.out 0).trans rfl; have hcz84_1 : w81.cell? ⟨gb163, 1, none⟩ = some (.string (⟨#[]⟩ : ByteArray)) := (blk_cell BK163.out 1).trans rfl; have hcz84_2 : w81.cell? ⟨gb163, 2, none⟩ = some (.int .i64 0) := (blk_cell BK163.out 2).trans rfl; have hfz84_0 := blk_frozen BK163.out 0; have hfz84_1 := blk_frozen BK163.out 1; have hfz84_2 := blk_frozen BK163.out 2))
              go_meet
              case rel => exact ⟨_, (1), (t176), (t173), (t174), (t175), ((⟨#[]⟩ : ByteArray)), ((⟨#[]⟩ : ByteArray)), (0), (by first | rfl | (simp; done) | (simp [*]; done)), (by first | rfl | (simp; done) | (simp [*]; done)), H', ⟨by have := HJ18.out; first | omega | exact Nat.le_refl _⟩, ⟨by (with_reducible repeat (first | refine blk_drewN ?_ _ | refine blk_drew ?_ | refine blk_alloc ?_ _)); refine blk_far ?_ NB159_163.out _; (with_reducible repeat (first | refine blk_drewN ?_ _ | refine blk_drew ?_ | refine blk_alloc ?_ _)); refine blk_far ?_ NB159_163.out _; (with_reducible repeat (first | refine blk_drewN ?_ _ | refine blk_drew ?_ | refine blk_alloc ?_ _)); refine blk_far ?_ NB159_163.out _; (with_reducible repeat (first | refine blk_drewN ?_ _ | refine blk_drew ?_ | refine blk_alloc ?_ _)); exact BK159.out⟩, ⟨by (with_reducible repeat (first | refine blk_drewN ?_ _ | refine blk_drew ?_ | refine blk_alloc ?_ _)); refine blk_far ?_ NB160_163.out _; (with_reducible repeat (first | refine blk_drewN ?_ _ | refine blk_drew ?_ | refine blk_alloc ?_ _)); refine blk_far ?_ NB160_163.out _; (with_reducible repeat (first | refine blk_drewN ?_ _ | refine blk_drew ?_ | refine blk_alloc ?_ _)); refine blk_far ?_ NB160_163.out _; (with_reducible repeat (first | refine blk_drewN ?_ _ | refine blk_drew ?_ | refine blk_alloc ?_ _)); exact BK160.out⟩, ⟨by (with_reducible repeat (first | refine blk_drewN ?_ _ | refine blk_drew ?_ | refine blk_alloc ?_ _)); refine blk_far ?_ NB161_163.out _; (with_reducible repeat (first | refine blk_drewN ?_ _ | refine blk_drew ?_ | refine blk_alloc ?_ _)); refine blk_far ?_ NB161_163.out _; (with_reducible repeat (first | refine blk_drewN ?_ _ | refine blk_drew ?_ | refine blk_alloc ?_ _)); refine blk_far ?_ NB161_163.out _; (with_reducible repeat (first | refine blk_drewN ?_ _ | refine blk_drew ?_ | refine blk_alloc ?_ _)); exact BK161.out⟩, ⟨by (with_reducible repeat (first | refine blk_drewN ?_ _ | refine blk_drew ?_ | refine blk_alloc ?_ _)); refine blk_put (cs := #[.string t173, .string t174, .int .i64 0]) ?_ 2 _ rfl; (with_reducible repeat (first | refine blk_drewN ?_ _ | refine blk_drew ?_ | refine blk_alloc ?_ _)); refine blk_put (cs := #[.string t173, .string (⟨#[]⟩ : ByteArray), .int .i64 0]) ?_ 1 _ rfl; (with_reducible repeat (first | refine blk_drewN ?_ _ | refine blk_drew ?_ | refine blk_alloc ?_ _)); refine blk_put (cs := #[.string (⟨#[]⟩ : ByteArray), .string (⟨#[]⟩ : ByteArray), .int .i64 0]) ?_ 0 _ rfl; (with_reducible repeat (first | refine blk_drewN ?_ _ | refine blk_drew ?_ | refine blk_alloc ?_ _)); exact BK163.out⟩, ⟨by (with_reducible repeat (first | refine blk_drewN ?_ _ | refine blk_drew ?_ | refine blk_alloc ?_ _)); refine blk_far ?_ NB164_163.out _; (with_reducible repeat (first | refine blk_drewN ?_ _ | refine blk_drew ?_ | refine blk_alloc ?_ _)); refine blk_far ?_ NB164_163.out _; (with_reducible repeat (first | refine blk_drewN ?_ _ | refine blk_drew ?_ | refine blk_alloc ?_ _)); refine blk_far ?_ NB164_163.out _; (with_reducible repeat (first | refine blk_drewN ?_ _ | refine blk_drew ?_ | refine blk_alloc ?_ _)); exact BK164.out⟩, ⟨by repeat (first | (with_reducible first | exact HB.out | apply below_alloc | apply pw_below_drewN | apply below_drew1 | refine below_set ?_ GE159.out | refine below_set ?_ GE160.out | refine below_set ?_ GE161.out | refine below_set ?_ GE163.out | refine below_set ?_ GE164.out) | exact HB.out)⟩⟩
          · rw [if_neg c50] at H
            have c50b0 : (t165 == 5) = false := beq_eq_false_iff_ne.mpr c50
            have c50b1 : (t165 != 5) = true := bne_iff_ne.mpr c50
            by_cases c85 : t165 = 6
            · rw [if_pos c85] at H
              have c85b0 : (t165 == 6) = true := beq_iff_eq.mpr c85
              have c85b1 : (t165 != 6) = false := bne_eq_false_iff_eq.mpr c85
              clear c85
              replace H := Option.bind_eq_some_iff.mp H
              obtain ⟨⟨t180, t181, t182, t183⟩, A860, H⟩ := H
              replace H : (if t162 = true then ((amanuensisref0_Num.f a1_1 (a0_0.size : Int)).bind fun t184 => (amanuensislaw12_step.j1 kj18 t162 1 t183 t184 a0_0 a0_1 a0_2 a1_0 a1_1 a1_2 t180 t181 t182 (⟨#[]⟩ : ByteArray) (⟨#[]⟩ : ByteArray) 0)) else (amanuensislaw12_step.j1 kj18 t162 1 t183 false a0_0 a0_1 a0_2 a1_0 a1_1 a1_2 t180 t181 t182 (⟨#[]⟩ : ByteArray) (⟨#[]⟩ : ByteArray) 0)) = some (r1, r2, r3, r4) := H
              have A86 := Aside0.mk A860
              clear A860
              have HC87 := Aside0.mk H
              clear H
              have hnb88 := NB159_160.out
              have hnc88 := NB160_159.out
              have hnb89 := NB159_161.out
              have hnc89 := NB161_159.out
              have hnb90 := NB159_163.out
              have hnc90 := NB163_159.out
              have hnb91 := NB159_164.out
              have hnc91 := NB164_159.out
              have hcz92_0 : wc.cell? ⟨gb159, 0, none⟩ = some (.string a0_0) := (blk_cell BK159.out 0).trans rfl
              have hcz92_1 : wc.cell? ⟨gb159, 1, none⟩ = some (.string a0_1) := (blk_cell BK159.out 1).trans rfl
              have hcz92_2 : wc.cell? ⟨gb159, 2, none⟩ = some (.int .i64 a0_2) := (blk_cell BK159.out 2).trans rfl
              have hfz92_0 := blk_frozen BK159.out 0
              have hfz92_1 := blk_frozen BK159.out 1
              have hfz92_2 := blk_frozen BK159.out 2
              have hnb93 := NB160_161.out
              have hnc93 := NB161_160.out
              have hnb94 := NB160_163.out
              have hnc94 := NB163_160.out
              have hnb95 := NB160_164.out
              have hnc95 := NB164_160.out
              have hcz96_0 : wc.cell? ⟨gb160, 0, none⟩ = some (.int .i64 a1_0) := (blk_cell BK160.out 0).trans rfl
              have hcz96_1 : wc.cell? ⟨gb160, 1, none⟩ = some (.int .i64 a1_1) := (blk_cell BK160.out 1).trans rfl
              have hcz96_2 : wc.cell? ⟨gb160, 2, none⟩ = some (.string a1_2) := (blk_cell BK160.out 2).trans rfl
              have hfz96_0 := blk_frozen BK160.out 0
              have hfz96_1 := blk_frozen BK160.out 1
              have hfz96_2 := blk_frozen BK160.out 2
              go_upto_region 22 with (first | ((with_reducible refine gate_callee (f := 41) rfl ?_); refine goesL_ (some 75) rfl rfl Try.func41 (by kernel_rfl) rfl #[.agg #[.string a0_0, .string a0_1, .int .i64 a0_2], .int .i64 a1_1] rfl (by (try simp only [List.map_toArray, List.map_cons, List.map_nil]); first | done | rfl | (simp only [List.length_drop, List.length_take]; rfl)) ?_; (with_reducible refine (file_Cut.calls kj18 a0_0 a0_1 a0_2 a1_1 t180 t181 t182 t183 _ A86.out).mono ?_); rintro e w97 ⟨rfl, hb⟩; refine ⟨_, rfl, ?_⟩; have n0_ := Aside0.mk (blk_below (g := gb159) (o := .cells #[.string a0_0, .string a0_1, .int .i64 a0_2] 23 (0, 0)) (by (with_reducible repeat (first | refine blk_drewN ?_ _ | refine blk_drew ?_ | refine blk_alloc ?_ _)); exact BK159.out) hb); have n1_ := Aside0.mk (blk_below (g := gb160) (o := .cells #[.int .i64 a1_0, .int .i64 a1_1, .string a1_2] 32 (0, 0)) (by (with_reducible repeat (first | refine blk_drewN ?_ _ | refine blk_drew ?_ | refine blk_alloc ?_ _)); exact BK160.out) hb); have n2_ := Aside0.mk (blk_below (g := gb161) (o := .cells #[.string (⟨#[]⟩ : ByteArray), .string (⟨#[]⟩ : ByteArray), .int .i64 0] 23 (0, 0)) (by (with_reducible repeat (first | refine blk_drewN ?_ _ | refine blk_drew ?_ | refine blk_alloc ?_ _)); exact BK161.out) hb); have n3_ := Aside0.mk (blk_below (g := gb163) (o := .cells #[.string (⟨#[]⟩ : ByteArray), .string (⟨#[]⟩ : ByteArray), .int .i64 0] 23 (0, 0)) (by (with_reducible repeat (first | refine blk_drewN ?_ _ | refine blk_drew ?_ | refine blk_alloc ?_ _)); exact BK163.out) hb); have n4_ := Aside0.mk (blk_below (g := gb164) (o := .cells #[.string (⟨#[]⟩ : ByteArray), .string (⟨#[]⟩ : ByteArray), .int .i64 0] 23 (0, 0)) (by (with_reducible repeat (first | refine blk_drewN ?_ _ | refine blk_drew ?_ | refine blk_alloc ?_ _)); exact BK164.out) hb); have n5_ := Aside0.mk (below_step (by repeat (first | (with_reducible first | exact HB.out | apply below_alloc | apply pw_below_drewN | apply below_drew1 | refine below_set ?_ GE159.out | refine below_set ?_ GE160.out | refine below_set ?_ GE161.out | refine below_set ?_ GE163.out | refine below_set ?_ GE164.out) | exact HB.out)) hb); clear BK159; clear BK160; clear BK161; clear BK163; clear BK164; clear HB; have BK159 := n0_; have BK160 := n1_; have BK161 := n2_; have BK163 := n3_; have BK164 := n4_; have HB := n5_; clear n0_ n1_ n2_ n3_ n4_ n5_; (try clear hb); (try clear hb2); (try clear hk); (try clear hi); have hnb98 := NB163_161.out; have hnc98 := NB161_163.out; have hnb99 := NB163_164.out; have hnc99 := NB164_163.out; have hcz100_0 : w97.cell? ⟨gb163, 0, none⟩ = some (.string (⟨#[]⟩ : ByteArray)) := (blk_cell BK163.out 0).trans rfl; have hcz100_1 : w97.cell? ⟨gb163, 1, none⟩ = some (.string (⟨#[]⟩ : ByteArray)) := (blk_cell BK163.out 1).trans rfl; have hcz100_2 : w97.cell? ⟨gb163, 2, none⟩ = some (.int .i64 0) := (blk_cell BK163.out 2).trans rfl; have hfz100_0 := blk_frozen BK163.out 0; have hfz100_1 := blk_frozen BK163.out 1; have hfz100_2 := blk_frozen BK163.out 2))
              (try simp only [Act.put, List.setIfInBounds_toArray, List.set_cons_zero, List.set_cons_succ])
              go_cut [86] (fun v86 wc => ∃ (kq : Nat) (x86_86 : Bool), v86 = .bool x86_86 ∧ Aside0 (amanuensislaw12_step.j1 kq t162 1 t183 x86_86 a0_0 a0_1 a0_2 a1_0 a1_1 a1_2 t180 t181 t182 (⟨#[]⟩ : ByteArray) (⟨#[]⟩ : ByteArray) 0 = some (r1, r2, r3, r4)) ∧ Aside0 (kq ≤ kj18) ∧ Aside0 (wc.heap[gb159]? = some (.cells #[.string a0_0, .string a0_1, .int .i64 a0_2] 23 (0, 0))) ∧ Aside0 (wc.heap[gb160]? = some (.cells #[.int .i64 a1_0, .int .i64 a1_1, .string a1_2] 32 (0, 0))) ∧ Aside0 (wc.heap[gb161]? = some (.cells #[.string (⟨#[]⟩ : ByteArray), .string (⟨#[]⟩ : ByteArray), .int .i64 0] 23 (0, 0))) ∧ Aside0 (wc.heap[gb163]? = some (.cells #[.string t180, .string t181, .int .i64 t182] 23 (0, 0))) ∧ Aside0 (wc.heap[gb164]? = some (.cells #[.string (⟨#[]⟩ : ByteArray), .string (⟨#[]⟩ : ByteArray), .int .i64 0] 23 (0, 0))) ∧ Aside0 (Below w.heap.size w wc))
              case first =>
                have H := HC87.out
                clear HC87
                by_cases c101 : t162 = true
                · subst c101
                  have H1 : ((amanuensisref0_Num.f a1_1 (a0_0.size : Int)).bind fun t184 => (amanuensislaw12_step.j1 kj18 true 1 t183 t184 a0_0 a0_1 a0_2 a1_0 a1_1 a1_2 t180 t181 t182 (⟨#[]⟩ : ByteArray) (⟨#[]⟩ : ByteArray) 0)) = some (r1, r2, r3, r4) := by rw [if_pos rfl] at H; exact H
                  clear H
                  have H := H1
                  clear H1
                  replace H := Option.bind_eq_some_iff.mp H
                  obtain ⟨t184, A1020, H⟩ := H
                  replace H : (amanuensislaw12_step.j1 kj18 true 1 t183 t184 a0_0 a0_1 a0_2 a1_0 a1_1 a1_2 t180 t181 t182 (⟨#[]⟩ : ByteArray) (⟨#[]⟩ : ByteArray) 0) = some (r1, r2, r3, r4) := H
                  have A102 := Aside0.mk A1020
                  clear A1020
                  have H' := Aside0.mk H
                  clear H
                  have hnb103 := NB160_159.out
                  have hnc103 := NB159_160.out
                  have hnb104 := NB160_161.out
                  have hnc104 := NB161_160.out
                  have hnb105 := NB160_163.out
                  have hnc105 := NB163_160.out
                  have hnb106 := NB160_164.out
                  have hnc106 := NB164_160.out
                  have hcz107_0 : w97.cell? ⟨gb160, 0, none⟩ = some (.int .i64 a1_0) := (blk_cell BK160.out 0).trans rfl
                  have hcz107_1 : w97.cell? ⟨gb160, 1, none⟩ = some (.int .i64 a1_1) := (blk_cell BK160.out 1).trans rfl
                  have hcz107_2 : w97.cell? ⟨gb160, 2, none⟩ = some (.string a1_2) := (blk_cell BK160.out 2).trans rfl
                  have hfz107_0 := blk_frozen BK160.out 0
                  have hfz107_1 := blk_frozen BK160.out 1
                  have hfz107_2 := blk_frozen BK160.out 2
                  have hnb108 := NB159_161.out
                  have hnc108 := NB161_159.out
                  have hnb109 := NB159_163.out
                  have hnc109 := NB163_159.out
                  have hnb110 := NB159_164.out
                  have hnc110 := NB164_159.out
                  have hcz111_0 : w97.cell? ⟨gb159, 0, none⟩ = some (.string a0_0) := (blk_cell BK159.out 0).trans rfl
                  have hcz111_1 : w97.cell? ⟨gb159, 1, none⟩ = some (.string a0_1) := (blk_cell BK159.out 1).trans rfl
                  have hcz111_2 : w97.cell? ⟨gb159, 2, none⟩ = some (.int .i64 a0_2) := (blk_cell BK159.out 2).trans rfl
                  have hfz111_0 := blk_frozen BK159.out 0
                  have hfz111_1 := blk_frozen BK159.out 1
                  have hfz111_2 := blk_frozen BK159.out 2
                  go_wp2_with (first | (go_at_call 42; (with_reducible refine (amanuensisref0_Num.calls a1_1 (a0_0.size : Int) t184 _ A102.out).mono ?_); rintro e w' ⟨rfl, ⟨nd, rfl⟩⟩))
                  go_meet
                  case rel => exact ⟨_, (t184), (by first | rfl | (simp; done) | (simp [*]; done)), H', ⟨by have := HJ18.out; first | omega | exact Nat.le_refl _⟩, ⟨by (with_reducible repeat (first | refine blk_drewN ?_ _ | refine blk_drew ?_ | refine blk_alloc ?_ _)); refine blk_far ?_ NB159_163.out _; (with_reducible repeat (first | refine blk_drewN ?_ _ | refine blk_drew ?_ | refine blk_alloc ?_ _)); refine blk_far ?_ NB159_163.out _; (with_reducible repeat (first | refine blk_drewN ?_ _ | refine blk_drew ?_ | refine blk_alloc ?_ _)); refine blk_far ?_ NB159_163.out _; (with_reducible repeat (first | refine blk_drewN ?_ _ | refine blk_drew ?_ | refine blk_alloc ?_ _)); exact BK159.out⟩, ⟨by (with_reducible repeat (first | refine blk_drewN ?_ _ | refine blk_drew ?_ | refine blk_alloc ?_ _)); refine blk_far ?_ NB160_163.out _; (with_reducible repeat (first | refine blk_drewN ?_ _ | refine blk_drew ?_ | refine blk_alloc ?_ _)); refine blk_far ?_ NB160_163.out _; (with_reducible repeat (first | refine blk_drewN ?_ _ | refine blk_drew ?_ | refine blk_alloc ?_ _)); refine blk_far ?_ NB160_163.out _; (with_reducible repeat (first | refine blk_drewN ?_ _ | refine blk_drew ?_ | refine blk_alloc ?_ _)); exact BK160.out⟩, ⟨by (with_reducible repeat (first | refine blk_drewN ?_ _ | refine blk_drew ?_ | refine blk_alloc ?_ _)); refine blk_far ?_ NB161_163.out _; (with_reducible repeat (first | refine blk_drewN ?_ _ | refine blk_drew ?_ | refine blk_alloc ?_ _)); refine blk_far ?_ NB161_163.out _; (with_reducible repeat (first | refine blk_drewN ?_ _ | refine blk_drew ?_ | refine blk_alloc ?_ _)); refine blk_far ?_ NB161_163.out _; (with_reducible repeat (first | refine blk_drewN ?_ _ | refine blk_drew ?_ | refine blk_alloc ?_ _)); exact BK161.out⟩, ⟨by (with_reducible repeat (first | refine blk_drewN ?_ _ | refine blk_drew ?_ | refine blk_alloc ?_ _)); refine blk_put (cs := #[.string t180, .string t181, .int .i64 0]) ?_ 2 _ rfl; (with_reducible repeat (first | refine blk_drewN ?_ _ | refine blk_drew ?_ | refine blk_alloc ?_ _)); refine blk_put (cs := #[.string t180, .string (⟨#[]⟩ : ByteArray), .int .i64 0]) ?_ 1 _ rfl; (with_reducible repeat (first | refine blk_drewN ?_ _ | refine blk_drew ?_ | refine blk_alloc ?_ _)); refine blk_put (cs := #[.string (⟨#[]⟩ : ByteArray), .string (⟨#[]⟩ : ByteArray), .int .i64 0]) ?_ 0 _ rfl; (with_reducible repeat (first | refine blk_drewN ?_ _ | refine blk_drew ?_ | refine blk_alloc ?_ _)); exact BK163.out⟩, ⟨by (with_reducible repeat (first | refine blk_drewN ?_ _ | refine blk_drew ?_ | refine blk_alloc ?_ _)); refine blk_far ?_ NB164_163.out _; (with_reducible repeat (first | refine blk_drewN ?_ _ | refine blk_drew ?_ | refine blk_alloc ?_ _)); refine blk_far ?_ NB164_163.out _; (with_reducible repeat (first | refine blk_drewN ?_ _ | refine blk_drew ?_ | refine blk_alloc ?_ _)); refine blk_far ?_ NB164_163.out _; (with_reducible repeat (first | refine blk_drewN ?_ _ | refine blk_drew ?_ | refine blk_alloc ?_ _)); exact BK164.out⟩, ⟨by repeat (first | (with_reducible first | exact HB.out | apply below_alloc | apply pw_below_drewN | apply below_drew1 | refine below_set ?_ GE159.out | refine below_set ?_ GE160.out | refine below_set ?_ GE161.out | refine below_set ?_ GE163.out | refine below_set ?_ GE164.out) | exact HB.out)⟩⟩
                · replace c101 := Bool.eq_false_iff.mpr c101
                  subst c101
                  have H1 : (amanuensislaw12_step.j1 kj18 false 1 t183 false a0_0 a0_1 a0_2 a1_0 a1_1 a1_2 t180 t181 t182 (⟨#[]⟩ : ByteArray) (⟨#[]⟩ : ByteArray) 0) = some (r1, r2, r3, r4) := by rw [if_neg (show ¬ (false = true) by decide)] at H; exact H
                  clear H
                  have H := H1
                  clear H1
                  have H' := Aside0.mk H
                  clear H
                  go_wp2
                  go_meet
                  case rel => exact ⟨_, (false), (by first | rfl | (simp; done) | (simp [*]; done)), H', ⟨by have := HJ18.out; first | omega | exact Nat.le_refl _⟩, ⟨by (with_reducible repeat (first | refine blk_drewN ?_ _ | refine blk_drew ?_ | refine blk_alloc ?_ _)); refine blk_far ?_ NB159_163.out _; (with_reducible repeat (first | refine blk_drewN ?_ _ | refine blk_drew ?_ | refine blk_alloc ?_ _)); refine blk_far ?_ NB159_163.out _; (with_reducible repeat (first | refine blk_drewN ?_ _ | refine blk_drew ?_ | refine blk_alloc ?_ _)); refine blk_far ?_ NB159_163.out _; (with_reducible repeat (first | refine blk_drewN ?_ _ | refine blk_drew ?_ | refine blk_alloc ?_ _)); exact BK159.out⟩, ⟨by (with_reducible repeat (first | refine blk_drewN ?_ _ | refine blk_drew ?_ | refine blk_alloc ?_ _)); refine blk_far ?_ NB160_163.out _; (with_reducible repeat (first | refine blk_drewN ?_ _ | refine blk_drew ?_ | refine blk_alloc ?_ _)); refine blk_far ?_ NB160_163.out _; (with_reducible repeat (first | refine blk_drewN ?_ _ | refine blk_drew ?_ | refine blk_alloc ?_ _)); refine blk_far ?_ NB160_163.out _; (with_reducible repeat (first | refine blk_drewN ?_ _ | refine blk_drew ?_ | refine blk_alloc ?_ _)); exact BK160.out⟩, ⟨by (with_reducible repeat (first | refine blk_drewN ?_ _ | refine blk_drew ?_ | refine blk_alloc ?_ _)); refine blk_far ?_ NB161_163.out _; (with_reducible repeat (first | refine blk_drewN ?_ _ | refine blk_drew ?_ | refine blk_alloc ?_ _)); refine blk_far ?_ NB161_163.out _; (with_reducible repeat (first | refine blk_drewN ?_ _ | refine blk_drew ?_ | refine blk_alloc ?_ _)); refine blk_far ?_ NB161_163.out _; (with_reducible repeat (first | refine blk_drewN ?_ _ | refine blk_drew ?_ | refine blk_alloc ?_ _)); exact BK161.out⟩, ⟨by (with_reducible repeat (first | refine blk_drewN ?_ _ | refine blk_drew ?_ | refine blk_alloc ?_ _)); refine blk_put (cs := #[.string t180, .string t181, .int .i64 0]) ?_ 2 _ rfl; (with_reducible repeat (first | refine blk_drewN ?_ _ | refine blk_drew ?_ | refine blk_alloc ?_ _)); refine blk_put (cs := #[.string t180, .string (⟨#[]⟩ : ByteArray), .int .i64 0]) ?_ 1 _ rfl; (with_reducible repeat (first | refine blk_drewN ?_ _ | refine blk_drew ?_ | refine blk_alloc ?_ _)); refine blk_put (cs := #[.string (⟨#[]⟩ : ByteArray), .string (⟨#[]⟩ : ByteArray), .int .i64 0]) ?_ 0 _ rfl; (with_reducible repeat (first | refine blk_drewN ?_ _ | refine blk_drew ?_ | refine blk_alloc ?_ _)); exact BK163.out⟩, ⟨by (with_reducible repeat (first | refine blk_drewN ?_ _ | refine blk_drew ?_ | refine blk_alloc ?_ _)); refine blk_far ?_ NB164_163.out _; (with_reducible repeat (first | refine blk_drewN ?_ _ | refine blk_drew ?_ | refine blk_alloc ?_ _)); refine blk_far ?_ NB164_163.out _; (with_reducible repeat (first | refine blk_drewN ?_ _ | refine blk_drew ?_ | refine blk_alloc ?_ _)); refine blk_far ?_ NB164_163.out _; (with_reducible repeat (first | refine blk_drewN ?_ _ | refine blk_drew ?_ | refine blk_alloc ?_ _)); exact BK164.out⟩, ⟨by repeat (first | (with_reducible first | exact HB.out | apply below_alloc | apply pw_below_drewN | apply below_drew1 | refine below_set ?_ GE159.out | refine below_set ?_ GE160.out | refine below_set ?_ GE161.out | refine below_set ?_ GE163.out | refine below_set ?_ GE164.out) | exact HB.out)⟩⟩
              case rest =>
                clear HC87
                try clear c1
                try clear c2
                try clear p2
                try clear c3
                try clear c4
                try clear c5
                try clear c6
                try clear c7
                try clear c8
                try clear c9
                try clear c10
                try clear c11
                try clear c15
                try clear c16
                try clear c17
                try clear c20
                try clear c20b0
                try clear c20b1
                try clear c21
                try clear c23
                try clear c25
                try clear c26
                try clear c27
                try clear c28
                try clear c29
                try clear c31
                try clear c32
                try clear c33
                try clear c37
                try clear c38
                try clear c39
                try clear c40
                try clear c41
                try clear c42
                try clear c43
                try clear c46
                try clear c47
                try clear c48
                try clear c50
                try clear c50b0
                try clear c50b1
                try clear c52
                try clear c54
                try clear c55
                try clear c56
                try clear c57
                try clear c59
                try clear c60
                try clear c61
                try clear c64
                try clear c65
                try clear c70
                try clear c72
                try clear c73
                try clear c74
                try clear c75
                try clear c77
                try clear c78
                try clear c79
                try clear c82
                try clear c83
                try clear c85
                try clear c85b0
                try clear c85b1
                try clear c88
                try clear c89
                try clear c90
                try clear c91
                try clear c93
                try clear c94
                try clear c95
                try clear c98
                try clear c99
                try clear c101
                try clear c103
                try clear c104
                try clear c105
                try clear c106
                try clear c108
                try clear c109
                try clear c110
                try clear hcz100_0
                try clear hcz100_1
                try clear hcz100_2
                try clear hcz107_0
                try clear hcz107_1
                try clear hcz107_2
                try clear hcz111_0
                try clear hcz111_1
                try clear hcz111_2
                try clear hcz11_0
                try clear hcz11_1
                try clear hcz11_2
                try clear hcz18_0
                try clear hcz18_1
                try clear hcz18_2
                try clear hcz29_0
                try clear hcz29_1
                try clear hcz29_2
                try clear hcz34_0
                try clear hcz34_1
                try clear hcz34_2
                try clear hcz35_0
                try clear hcz35_1
                try clear hcz35_2
                try clear hcz39_0
                try clear hcz39_1
                try clear hcz39_2
                try clear hcz44_0
                try clear hcz44_1
                try clear hcz44_2
                try clear hcz49_0
                try clear hcz49_1
                try clear hcz49_2
                try clear hcz58_0
                try clear hcz58_1
                try clear hcz58_2
                try clear hcz62_0
                try clear hcz62_1
                try clear hcz62_2
                try clear hcz66_0
                try clear hcz66_1
                try clear hcz66_2
                try clear hcz67_0
                try clear hcz67_1
                try clear hcz67_2
                try clear hcz68_0
                try clear hcz68_1
                try clear hcz68_2
                try clear hcz71_0
                try clear hcz71_1
                try clear hcz71_2
                try clear hcz76_0
                try clear hcz76_1
                try clear hcz76_2
                try clear hcz80_0
                try clear hcz80_1
                try clear hcz80_2
                try clear hcz84_0
                try clear hcz84_1
                try clear hcz84_2
                try clear hcz92_0
                try clear hcz92_1
                try clear hcz92_2
                try clear hcz96_0
                try clear hcz96_1
                try clear hcz96_2
                try clear hfz100_0
                try clear hfz100_1
                try clear hfz100_2
                try clear hfz107_0
                try clear hfz107_1
                try clear hfz107_2
                try clear hfz111_0
                try clear hfz111_1
                try clear hfz111_2
                try clear hfz11_0
                try clear hfz11_1
                try clear hfz11_2
                try clear hfz18_0
                try clear hfz18_1
                try clear hfz18_2
                try clear hfz29_0
                try clear hfz29_1
                try clear hfz29_2
                try clear hfz34_0
                try clear hfz34_1
                try clear hfz34_2
                try clear hfz35_0
                try clear hfz35_1
                try clear hfz35_2
                try clear hfz39_0
                try clear hfz39_1
                try clear hfz39_2
                try clear hfz44_0
                try clear hfz44_1
                try clear hfz44_2
                try clear hfz49_0
                try clear hfz49_1
                try clear hfz49_2
                try clear hfz58_0
                try clear hfz58_1
                try clear hfz58_2
                try clear hfz62_0
                try clear hfz62_1
                try clear hfz62_2
                try clear hfz66_0
                try clear hfz66_1
                try clear hfz66_2
                try clear hfz67_0
                try clear hfz67_1
                try clear hfz67_2
                try clear hfz68_0
                try clear hfz68_1
                try clear hfz68_2
                try clear hfz71_0
                try clear hfz71_1
                try clear hfz71_2
                try clear hfz76_0
                try clear hfz76_1
                try clear hfz76_2
                try clear hfz80_0
                try clear hfz80_1
                try clear hfz80_2
                try clear hfz84_0
                try clear hfz84_1
                try clear hfz84_2
                try clear hfz92_0
                try clear hfz92_1
                try clear hfz92_2
                try clear hfz96_0
                try clear hfz96_1
                try clear hfz96_2
                try clear p2
                obtain ⟨kq, x86_86, rfl, HA, HJ86, BK159, BK160, BK161, BK163, BK164, HB⟩ := hcut
                cases kq with
                | zero => exact absurd HA.out (by simp [amanuensislaw12_step.j1])
                | succ kj86 =>
                  have H := HA.out
                  clear HA
                  simp only [amanuensislaw12_step.j1] at H
                  by_cases c112 : x86_86 = true
                  · subst c112
                    have H1 : (if a0_1.toList = ([] : List UInt8) then (if 0 ≤ a1_1 then (if a1_1 ≤ (a0_0.size : Int) then (amanuensislaw12_step.j2 kj86 t162 0 t183 a0_0 a0_1 a0_2 t180 t181 t182 (a0_0.extract 0 (a1_1 : Int).toNat) (⟨#[]⟩ : ByteArray) a0_2) else (none)) else (none)) else (amanuensislaw12_step.j2 kj86 t162 9 t183 a0_0 a0_1 a0_2 t180 t181 t182 (⟨#[]⟩ : ByteArray) (⟨#[]⟩ : ByteArray) 0)) = some (r1, r2, r3, r4) := by rw [if_pos rfl] at H; exact H
                    clear H
                    have H := H1
                    clear H1
                    by_cases c113 : a0_1.toList = ([] : List UInt8)
                    · rw [if_pos c113] at H
                      have c113b0 : (a0_1.toList == ([] : List UInt8)) = true := beq_iff_eq.mpr c113
                      have c113b9 : a0_1.toList.isEmpty = true := by (have e_ : ∀ l : List UInt8, l.isEmpty = (l == []) := fun l => by cases l <;> rfl); simp only [e_]; exact c113b0
                      have c113b1 : (a0_1.toList != ([] : List UInt8)) = false := bne_eq_false_iff_eq.mpr c113
                      clear c113
                      by_cases c114 : 0 ≤ a1_1
                      · rw [if_pos c114] at H
                        have c114b0 := eq_true c114
                        have c114b1 : decide (0 ≤ a1_1) = true := decide_eq_true c114
                        clear c114
                        by_cases c115 : a1_1 ≤ (a0_0.size : Int)
                        · rw [if_pos c115] at H
                          have c115b0 := eq_true c115
                          have c115b1 : decide (a1_1 ≤ (a0_0.size : Int)) = true := decide_eq_true c115
                          clear c115
                          have H' := Aside0.mk H
                          clear H
                          have hnb116 := NB159_160.out
                          have hnc116 := NB160_159.out
                          have hnb117 := NB159_161.out
                          have hnc117 := NB161_159.out
                          have hnb118 := NB159_163.out
                          have hnc118 := NB163_159.out
                          have hnb119 := NB159_164.out
                          have hnc119 := NB164_159.out
                          have hcz120_0 : wc.cell? ⟨gb159, 0, none⟩ = some (.string a0_0) := (blk_cell BK159.out 0).trans rfl
                          have hcz120_1 : wc.cell? ⟨gb159, 1, none⟩ = some (.string a0_1) := (blk_cell BK159.out 1).trans rfl
                          have hcz120_2 : wc.cell? ⟨gb159, 2, none⟩ = some (.int .i64 a0_2) := (blk_cell BK159.out 2).trans rfl
                          have hfz120_0 := blk_frozen BK159.out 0
                          have hfz120_1 := blk_frozen BK159.out 1
                          have hfz120_2 := blk_frozen BK159.out 2
                          try go_wp2
                          have n0_ := Aside0.mk (blk_drew BK159.out)
                          have n1_ := Aside0.mk (blk_drew BK160.out)
                          have n2_ := Aside0.mk (blk_drew BK161.out)
                          have n3_ := Aside0.mk (blk_drew BK163.out)
                          have n4_ := Aside0.mk (blk_drew BK164.out)
                          have n5_ := Aside0.mk (below_drew1 HB.out)
                          clear BK159
                          clear BK160
                          clear BK161
                          clear BK163
                          clear BK164
                          clear HB
                          have BK159 := n0_
                          have BK160 := n1_
                          have BK161 := n2_
                          have BK163 := n3_
                          have BK164 := n4_
                          have HB := n5_
                          clear n0_ n1_ n2_ n3_ n4_ n5_
                          refine start_ (n := 10) (S := fun w' => w'.cell? ⟨gb159, 0, none⟩ = some (.string a0_0) ∧ w'.cell? ⟨gb159, 1, none⟩ = some (.string a0_1) ∧ w'.cell? ⟨gb159, 2, none⟩ = some (.int .i64 a0_2) ∧ w'.cell? ⟨gb160, 0, none⟩ = some (.int .i64 a1_0) ∧ w'.cell? ⟨gb160, 1, none⟩ = some (.int .i64 a1_1) ∧ w'.cell? ⟨gb160, 2, none⟩ = some (.string a1_2)) (ds := []) #[false, false, false, false, false, false, false, false, false, false] (by kernel_rfl) rfl rfl ⟨(blk_cell BK159.out 0).trans rfl, (blk_cell BK159.out 1).trans rfl, (blk_cell BK159.out 2).trans rfl, (blk_cell BK160.out 0).trans rfl, (blk_cell BK160.out 1).trans rfl, (blk_cell BK160.out 2).trans rfl⟩ (fun hHeld => ?_); refine with_tabW amanuensislaw12_step.tab25 amanuensislaw12_step.bits25 (fun HT_ HW_ => ?_)
                          generalize wc.drew = w121 at BK159 BK160 BK161 BK163 BK164 HB hHeld ⊢
                          refine pure_ (i := 0) (N := some 90) (v := ?_) (a' := ?_) #[true, false, false, false, false, false, false, false, false, false] rfl rfl (any_of HT_.out (by kernel_rfl)) (fun _ _ _ h => h) (Or.inl ⟨by rfl, ?_⟩) ?_ ?_
                          rotate_left
                          · intro w'
                            go_simp
                            with_reducible rfl
                          rotate_left
                          · simp only [Act.put, List.setIfInBounds_toArray, List.set_cons_zero, List.set_cons_succ, i64_w, i32_w]
                            rfl
                          refine pure_ (i := 2) (N := some 92) (v := ?_) (a' := ?_) #[true, false, true, false, false, false, false, false, false, false] rfl rfl (any_of HT_.out (by kernel_rfl)) (fun _ _ _ h => h) (Or.inl ⟨by rfl, ?_⟩) ?_ ?_
                          rotate_left
                          · intro w'
                            go_simp
                            with_reducible rfl
                          rotate_left
                          · simp only [Act.put, List.setIfInBounds_toArray, List.set_cons_zero, List.set_cons_succ, i64_w, i32_w]
                            rfl
                          refine pure_ (i := 5) (N := some 95) (v := ?_) (a' := ?_) #[true, false, true, false, false, true, false, false, false, false] rfl rfl (any_of HT_.out (by kernel_rfl)) (fun _ _ _ h => h) (Or.inl ⟨by rfl, ?_⟩) ?_ ?_
                          rotate_left
                          · intro w'
                            go_simp
                            with_reducible rfl
                          rotate_left
                          · simp only [Act.put, List.setIfInBounds_toArray, List.set_cons_zero, List.set_cons_succ, i64_w, i32_w]
                            rfl
                          refine pure_ (i := 8) (N := some 7) (v := ?_) (a' := ?_) #[true, false, true, false, false, true, false, false, true, false] rfl rfl (any_of HT_.out (by kernel_rfl)) (fun _ _ _ h => h) (Or.inl ⟨by rfl, ?_⟩) ?_ ?_
                          rotate_left
                          · intro w'
                            go_simp
                            with_reducible rfl
                          rotate_left
                          · simp only [Act.put, List.setIfInBounds_toArray, List.set_cons_zero, List.set_cons_succ, i64_w, i32_w]
                            rfl
                          refine take_ (i := 1) (N := some 91) (v := ?_) (a' := ?_) #[true, true, true, false, false, true, false, false, true, false] rfl rfl (take_ofW HT_.out HW_.out (by kernel_rfl)) (fun _ _ _ h => h) (Or.inl ⟨by rfl, ?_⟩) hHeld ?_ ?_
                          rotate_left
                          · rintro w' ⟨s0, s1, s2, s3, s4, s5⟩
                            go_simp
                            with_reducible rfl
                          rotate_left
                          · simp only [Act.put, List.setIfInBounds_toArray, List.set_cons_zero, List.set_cons_succ, i64_w, i32_w]
                            rfl
                          refine take_ (i := 3) (N := some 93) (v := ?_) (a' := ?_) #[true, true, true, true, false, true, false, false, true, false] rfl rfl (take_ofW HT_.out HW_.out (by kernel_rfl)) (fun _ _ _ h => h) (Or.inl ⟨by rfl, ?_⟩) hHeld ?_ ?_
                          rotate_left
                          · rintro w' ⟨s0, s1, s2, s3, s4, s5⟩
                            go_simp
                            with_reducible rfl
                          rotate_left
                          · simp only [Act.put, List.setIfInBounds_toArray, List.set_cons_zero, List.set_cons_succ, i64_w, i32_w]
                            rfl
                          refine pure_ (i := 4) (N := some 94) (v := ?_) (a' := ?_) #[true, true, true, true, true, true, false, false, true, false] rfl rfl (any_of HT_.out (by kernel_rfl)) (fun _ _ _ h => h) (Or.inl ⟨by rfl, ?_⟩) ?_ ?_
                          rotate_left
                          · intro w'
                            go_simp
                            with_reducible rfl
                          rotate_left
                          · simp only [Act.put, List.setIfInBounds_toArray, List.set_cons_zero, List.set_cons_succ, i64_w, i32_w]
                            rfl
                          refine take_ (i := 6) (N := some 96) (v := ?_) (a' := ?_) #[true, true, true, true, true, true, true, false, true, false] rfl rfl (take_ofW HT_.out HW_.out (by kernel_rfl)) (fun _ _ _ h => h) (Or.inl ⟨by rfl, ?_⟩) hHeld ?_ ?_
                          rotate_left
                          · rintro w' ⟨s0, s1, s2, s3, s4, s5⟩
                            go_simp
                            with_reducible rfl
                          rotate_left
                          · simp only [Act.put, List.setIfInBounds_toArray, List.set_cons_zero, List.set_cons_succ, i64_w, i32_w]
                            rfl
                          refine pure_ (i := 7) (N := some 97) (v := ?_) (a' := ?_) #[true, true, true, true, true, true, true, true, true, false] rfl rfl (any_of HT_.out (by kernel_rfl)) (fun _ _ _ h => h) (Or.inl ⟨by rfl, ?_⟩) ?_ ?_
                          rotate_left
                          · intro w'
                            go_simp
                            with_reducible rfl
                          rotate_left
                          · simp only [Act.put, List.setIfInBounds_toArray, List.set_cons_zero, List.set_cons_succ, i64_w, i32_w]
                            rfl
                          refine one_ (i := 9) (N := none) #[true, true, true, true, true, true, true, true, true, true] rfl rfl (one_of HT_.out (by kernel_rfl)) (by decide) (fun K hK => ?_)
                          have hs122 : w121.cell? ⟨gb164, 0, none⟩ = some (.string (⟨#[]⟩ : ByteArray)) := (blk_cell BK164.out 0).trans rfl
                          have hfs122 := blk_frozen BK164.out 0
                          have hns122_0 := NB159_164.out
                          have hns122_1 := NB160_164.out
                          have hns122_2 := NB161_164.out
                          have hns122_3 := NB163_164.out
                          have hms122_0 := NB164_159.out
                          have hms122_1 := NB164_160.out
                          have hms122_2 := NB164_161.out
                          have hms122_3 := NB164_163.out
                          have hs123 : w121.cell? ⟨gb164, 1, none⟩ = some (.string (⟨#[]⟩ : ByteArray)) := (blk_cell BK164.out 1).trans rfl
                          have hfs123 := blk_frozen BK164.out 1
                          have hns123_0 := NB159_164.out
                          have hns123_1 := NB160_164.out
                          have hns123_2 := NB161_164.out
                          have hns123_3 := NB163_164.out
                          have hms123_0 := NB164_159.out
                          have hms123_1 := NB164_160.out
                          have hms123_2 := NB164_161.out
                          have hms123_3 := NB164_163.out
                          have hs124 : w121.cell? ⟨gb164, 2, none⟩ = some (.int .i64 0) := (blk_cell BK164.out 2).trans rfl
                          have hfs124 := blk_frozen BK164.out 2
                          have hns124_0 := NB159_164.out
                          have hns124_1 := NB160_164.out
                          have hns124_2 := NB161_164.out
                          have hns124_3 := NB163_164.out
                          have hms124_0 := NB164_159.out
                          have hms124_1 := NB164_160.out
                          have hms124_2 := NB164_161.out
                          have hms124_3 := NB164_163.out
                          refine skip_ (w1 := ?_) (by rfl) rfl ?_ ?_
                          rotate_left
                          · go_simp
                            rfl
                          refine hK.out _ _ ⟨((cell_far (p := ⟨gb164, _, none⟩) NB159_164.out _).trans (((cell_far (p := ⟨gb164, _, none⟩) NB159_164.out _).trans (((cell_far (p := ⟨gb164, _, none⟩) NB159_164.out _).trans (hHeld.1)))))), ((cell_far (p := ⟨gb164, _, none⟩) NB159_164.out _).trans (((cell_far (p := ⟨gb164, _, none⟩) NB159_164.out _).trans (((cell_far (p := ⟨gb164, _, none⟩) NB159_164.out _).trans (hHeld.2.1)))))), ((cell_far (p := ⟨gb164, _, none⟩) NB159_164.out _).trans (((cell_far (p := ⟨gb164, _, none⟩) NB159_164.out _).trans (((cell_far (p := ⟨gb164, _, none⟩) NB159_164.out _).trans (hHeld.2.2.1)))))), ((cell_far (p := ⟨gb164, _, none⟩) NB160_164.out _).trans (((cell_far (p := ⟨gb164, _, none⟩) NB160_164.out _).trans (((cell_far (p := ⟨gb164, _, none⟩) NB160_164.out _).trans (hHeld.2.2.2.1)))))), ((cell_far (p := ⟨gb164, _, none⟩) NB160_164.out _).trans (((cell_far (p := ⟨gb164, _, none⟩) NB160_164.out _).trans (((cell_far (p := ⟨gb164, _, none⟩) NB160_164.out _).trans (hHeld.2.2.2.2.1)))))), ((cell_far (p := ⟨gb164, _, none⟩) NB160_164.out _).trans (((cell_far (p := ⟨gb164, _, none⟩) NB160_164.out _).trans (((cell_far (p := ⟨gb164, _, none⟩) NB160_164.out _).trans (hHeld.2.2.2.2.2))))))⟩ (fun hHeld => ?_)
                          clear hK K
                          refine done_ (done_of HT_.out (by kernel_rfl)) ?_
                          try go_wp2
                          go_meet
                          case rel => exact ⟨_, (0), (t183), (t180), (t181), (t182), (a0_0.extract 0 (a1_1 : Int).toNat), ((⟨#[]⟩ : ByteArray)), (a0_2), (by first | rfl | (simp; done) | (simp [*]; done)), (by first | rfl | (simp; done) | (simp [*]; done)), H', ⟨by have := HJ18.out; have := HJ86.out; first | omega | exact Nat.le_refl _⟩, ⟨by (with_reducible repeat (first | refine blk_drewN ?_ _ | refine blk_drew ?_ | refine blk_alloc ?_ _)); refine blk_far ?_ NB159_164.out _; (with_reducible repeat (first | refine blk_drewN ?_ _ | refine blk_drew ?_ | refine blk_alloc ?_ _)); refine blk_far ?_ NB159_164.out _; (with_reducible repeat (first | refine blk_drewN ?_ _ | refine blk_drew ?_ | refine blk_alloc ?_ _)); refine blk_far ?_ NB159_164.out _; (with_reducible repeat (first | refine blk_drewN ?_ _ | refine blk_drew ?_ | refine blk_alloc ?_ _)); exact BK159.out⟩, ⟨by (with_reducible repeat (first | refine blk_drewN ?_ _ | refine blk_drew ?_ | refine blk_alloc ?_ _)); refine blk_far ?_ NB160_164.out _; (with_reducible repeat (first | refine blk_drewN ?_ _ | refine blk_drew ?_ | refine blk_alloc ?_ _)); refine blk_far ?_ NB160_164.out _; (with_reducible repeat (first | refine blk_drewN ?_ _ | refine blk_drew ?_ | refine blk_alloc ?_ _)); refine blk_far ?_ NB160_164.out _; (with_reducible repeat (first | refine blk_drewN ?_ _ | refine blk_drew ?_ | refine blk_alloc ?_ _)); exact BK160.out⟩, ⟨by (with_reducible repeat (first | refine blk_drewN ?_ _ | refine blk_drew ?_ | refine blk_alloc ?_ _)); refine blk_far ?_ NB161_164.out _; (with_reducible repeat (first | refine blk_drewN ?_ _ | refine blk_drew ?_ | refine blk_alloc ?_ _)); refine blk_far ?_ NB161_164.out _; (with_reducible repeat (first | refine blk_drewN ?_ _ | refine blk_drew ?_ | refine blk_alloc ?_ _)); refine blk_far ?_ NB161_164.out _; (with_reducible repeat (first | refine blk_drewN ?_ _ | refine blk_drew ?_ | refine blk_alloc ?_ _)); exact BK161.out⟩, ⟨by (with_reducible repeat (first | refine blk_drewN ?_ _ | refine blk_drew ?_ | refine blk_alloc ?_ _)); refine blk_far ?_ NB163_164.out _; (with_reducible repeat (first | refine blk_drewN ?_ _ | refine blk_drew ?_ | refine blk_alloc ?_ _)); refine blk_far ?_ NB163_164.out _; (with_reducible repeat (first | refine blk_drewN ?_ _ | refine blk_drew ?_ | refine blk_alloc ?_ _)); refine blk_far ?_ NB163_164.out _; (with_reducible repeat (first | refine blk_drewN ?_ _ | refine blk_drew ?_ | refine blk_alloc ?_ _)); exact BK163.out⟩, ⟨by (with_reducible repeat (first | refine blk_drewN ?_ _ | refine blk_drew ?_ | refine blk_alloc ?_ _)); refine blk_put (cs := #[.string (a0_0.extract 0 (a1_1 : Int).toNat), .string (⟨#[]⟩ : ByteArray), .int .i64 0]) ?_ 2 _ rfl; (with_reducible repeat (first | refine blk_drewN ?_ _ | refine blk_drew ?_ | refine blk_alloc ?_ _)); refine blk_put (cs := #[.string (a0_0.extract 0 (a1_1 : Int).toNat), .string (⟨#[]⟩ : ByteArray), .int .i64 0]) ?_ 1 _ rfl; (with_reducible repeat (first | refine blk_drewN ?_ _ | refine blk_drew ?_ | refine blk_alloc ?_ _)); refine blk_put (cs := #[.string (⟨#[]⟩ : ByteArray), .string (⟨#[]⟩ : ByteArray), .int .i64 0]) ?_ 0 _ rfl; (with_reducible repeat (first | refine blk_drewN ?_ _ | refine blk_drew ?_ | refine blk_alloc ?_ _)); exact BK164.out⟩, ⟨by repeat (first | (with_reducible first | exact HB.out | apply below_alloc | apply pw_below_drewN | apply below_drew1 | refine below_set ?_ GE159.out | refine below_set ?_ GE160.out | refine below_set ?_ GE161.out | refine below_set ?_ GE163.out | refine below_set ?_ GE164.out) | exact HB.out)⟩⟩
                        · rw [if_neg c115] at H
                          exact absurd H (by simp)
                      · rw [if_neg c114] at H
                        exact absurd H (by simp)
                    · rw [if_neg c113] at H
                      have c113b0 : (a0_1.toList == ([] : List UInt8)) = false := beq_eq_false_iff_ne.mpr c113
                      have c113b9 : a0_1.toList.isEmpty = false := by (have e_ : ∀ l : List UInt8, l.isEmpty = (l == []) := fun l => by cases l <;> rfl); simp only [e_]; exact c113b0
                      have c113b1 : (a0_1.toList != ([] : List UInt8)) = true := bne_iff_ne.mpr c113
                      have H' := Aside0.mk H
                      clear H
                      have hnb125 := NB159_160.out
                      have hnc125 := NB160_159.out
                      have hnb126 := NB159_161.out
                      have hnc126 := NB161_159.out
                      have hnb127 := NB159_163.out
                      have hnc127 := NB163_159.out
                      have hnb128 := NB159_164.out
                      have hnc128 := NB164_159.out
                      have hcz129_0 : wc.cell? ⟨gb159, 0, none⟩ = some (.string a0_0) := (blk_cell BK159.out 0).trans rfl
                      have hcz129_1 : wc.cell? ⟨gb159, 1, none⟩ = some (.string a0_1) := (blk_cell BK159.out 1).trans rfl
                      have hcz129_2 : wc.cell? ⟨gb159, 2, none⟩ = some (.int .i64 a0_2) := (blk_cell BK159.out 2).trans rfl
                      have hfz129_0 := blk_frozen BK159.out 0
                      have hfz129_1 := blk_frozen BK159.out 1
                      have hfz129_2 := blk_frozen BK159.out 2
                      go_wp2
                      go_meet
                      case rel => exact ⟨_, (9), (t183), (t180), (t181), (t182), ((⟨#[]⟩ : ByteArray)), ((⟨#[]⟩ : ByteArray)), (0), (by first | rfl | (simp; done) | (simp [*]; done)), (by first | rfl | (simp; done) | (simp [*]; done)), H', ⟨by have := HJ18.out; have := HJ86.out; first | omega | exact Nat.le_refl _⟩, ⟨by (with_reducible repeat (first | refine blk_drewN ?_ _ | refine blk_drew ?_ | refine blk_alloc ?_ _)); exact BK159.out⟩, ⟨by (with_reducible repeat (first | refine blk_drewN ?_ _ | refine blk_drew ?_ | refine blk_alloc ?_ _)); exact BK160.out⟩, ⟨by (with_reducible repeat (first | refine blk_drewN ?_ _ | refine blk_drew ?_ | refine blk_alloc ?_ _)); exact BK161.out⟩, ⟨by (with_reducible repeat (first | refine blk_drewN ?_ _ | refine blk_drew ?_ | refine blk_alloc ?_ _)); exact BK163.out⟩, ⟨by (with_reducible repeat (first | refine blk_drewN ?_ _ | refine blk_drew ?_ | refine blk_alloc ?_ _)); exact BK164.out⟩, ⟨by repeat (first | (with_reducible first | exact HB.out | apply below_alloc | apply pw_below_drewN | apply below_drew1 | refine below_set ?_ GE159.out | refine below_set ?_ GE160.out | refine below_set ?_ GE161.out | refine below_set ?_ GE163.out | refine below_set ?_ GE164.out) | exact HB.out)⟩⟩
                  · replace c112 := Bool.eq_false_iff.mpr c112
                    subst c112
                    have H1 : (amanuensislaw12_step.j2 kj86 t162 1 t183 a0_0 a0_1 a0_2 t180 t181 t182 (⟨#[]⟩ : ByteArray) (⟨#[]⟩ : ByteArray) 0) = some (r1, r2, r3, r4) := by rw [if_neg (show ¬ (false = true) by decide)] at H; exact H
                    clear H
                    have H := H1
                    clear H1
                    have H' := Aside0.mk H
                    clear H
                    go_wp2
                    go_meet
                    case rel => exact ⟨_, (1), (t183), (t180), (t181), (t182), ((⟨#[]⟩ : ByteArray)), ((⟨#[]⟩ : ByteArray)), (0), (by first | rfl | (simp; done) | (simp [*]; done)), (by first | rfl | (simp; done) | (simp [*]; done)), H', ⟨by have := HJ18.out; have := HJ86.out; first | omega | exact Nat.le_refl _⟩, ⟨by (with_reducible repeat (first | refine blk_drewN ?_ _ | refine blk_drew ?_ | refine blk_alloc ?_ _)); exact BK159.out⟩, ⟨by (with_reducible repeat (first | refine blk_drewN ?_ _ | refine blk_drew ?_ | refine blk_alloc ?_ _)); exact BK160.out⟩, ⟨by (with_reducible repeat (first | refine blk_drewN ?_ _ | refine blk_drew ?_ | refine blk_alloc ?_ _)); exact BK161.out⟩, ⟨by (with_reducible repeat (first | refine blk_drewN ?_ _ | refine blk_drew ?_ | refine blk_alloc ?_ _)); exact BK163.out⟩, ⟨by (with_reducible repeat (first | refine blk_drewN ?_ _ | refine blk_drew ?_ | refine blk_alloc ?_ _)); exact BK164.out⟩, ⟨by repeat (first | (with_reducible first | exact HB.out | apply below_alloc | apply pw_below_drewN | apply below_drew1 | refine below_set ?_ GE159.out | refine below_set ?_ GE160.out | refine below_set ?_ GE161.out | refine below_set ?_ GE163.out | refine below_set ?_ GE164.out) | exact HB.out)⟩⟩
            · rw [if_neg c85] at H
              have c85b0 : (t165 == 6) = false := beq_eq_false_iff_ne.mpr c85
              have c85b1 : (t165 != 6) = true := bne_iff_ne.mpr c85
              replace H := Option.bind_eq_some_iff.mp H
              obtain ⟨⟨t185, t186, t187, t188⟩, A1300, H⟩ := H
              replace H : (if t162 = true then ((amanuensisref9_Free.f a0_0 a0_1 a0_2).bind fun t189 => (if (a1_2.size : Int) ≤ t189 then (if a0_1.size + a1_2.size ≤ 9223372036854775807 then (amanuensislaw12_step.j2 kj18 t162 0 t188 a0_0 a0_1 a0_2 t185 t186 t187 a0_0 (a0_1 ++ a1_2) a0_2) else (none)) else (amanuensislaw12_step.j2 kj18 t162 7 t188 a0_0 a0_1 a0_2 t185 t186 t187 (⟨#[]⟩ : ByteArray) (⟨#[]⟩ : ByteArray) 0))) else (amanuensislaw12_step.j2 kj18 t162 1 t188 a0_0 a0_1 a0_2 t185 t186 t187 (⟨#[]⟩ : ByteArray) (⟨#[]⟩ : ByteArray) 0)) = some (r1, r2, r3, r4) := H
              have A130 := Aside0.mk A1300
              clear A1300
              by_cases c131 : t162 = true
              · subst c131
                have H1 : ((amanuensisref9_Free.f a0_0 a0_1 a0_2).bind fun t189 => (if (a1_2.size : Int) ≤ t189 then (if a0_1.size + a1_2.size ≤ 9223372036854775807 then (amanuensislaw12_step.j2 kj18 true 0 t188 a0_0 a0_1 a0_2 t185 t186 t187 a0_0 (a0_1 ++ a1_2) a0_2) else (none)) else (amanuensislaw12_step.j2 kj18 true 7 t188 a0_0 a0_1 a0_2 t185 t186 t187 (⟨#[]⟩ : ByteArray) (⟨#[]⟩ : ByteArray) 0))) = some (r1, r2, r3, r4) := by rw [if_pos rfl] at H; exact H
                clear H
                have H := H1
                clear H1
                replace H := Option.bind_eq_some_iff.mp H
                obtain ⟨t189, A1320, H⟩ := H
                replace H : (if (a1_2.size : Int) ≤ t189 then (if a0_1.size + a1_2.size ≤ 9223372036854775807 then (amanuensislaw12_step.j2 kj18 true 0 t188 a0_0 a0_1 a0_2 t185 t186 t187 a0_0 (a0_1 ++ a1_2) a0_2) else (none)) else (amanuensislaw12_step.j2 kj18 true 7 t188 a0_0 a0_1 a0_2 t185 t186 t187 (⟨#[]⟩ : ByteArray) (⟨#[]⟩ : ByteArray) 0)) = some (r1, r2, r3, r4) := H
                have A132 := Aside0.mk A1320
                clear A1320
                by_cases c133 : (a1_2.size : Int) ≤ t189
                · rw [if_pos c133] at H
                  have c133b0 : decide ((a1_2.size : Int) ≤ t189) = true := decide_eq_true c133
                  clear c133
                  by_cases c134 : a0_1.size + a1_2.size ≤ 9223372036854775807
                  · rw [if_pos c134] at H
                    have c134b0 := eq_true c134
                    have c134b1 : decide (a0_1.size + a1_2.size ≤ 9223372036854775807) = true := decide_eq_true c134
                    try have c134b2 : (9223372036854775807 < a0_1.size + a1_2.size) = False := eq_false (Nat.not_lt.2 c134)
                    have H' := Aside0.mk H
                    clear H
                    have hnb135 := NB159_160.out
                    have hnc135 := NB160_159.out
                    have hnb136 := NB159_161.out
                    have hnc136 := NB161_159.out
                    have hnb137 := NB159_163.out
                    have hnc137 := NB163_159.out
                    have hnb138 := NB159_164.out
                    have hnc138 := NB164_159.out
                    have hcz139_0 : wc.cell? ⟨gb159, 0, none⟩ = some (.string a0_0) := (blk_cell BK159.out 0).trans rfl
                    have hcz139_1 : wc.cell? ⟨gb159, 1, none⟩ = some (.string a0_1) := (blk_cell BK159.out 1).trans rfl
                    have hcz139_2 : wc.cell? ⟨gb159, 2, none⟩ = some (.int .i64 a0_2) := (blk_cell BK159.out 2).trans rfl
                    have hfz139_0 := blk_frozen BK159.out 0
                    have hfz139_1 := blk_frozen BK159.out 1
                    have hfz139_2 := blk_frozen BK159.out 2
                    have hnb140 := NB160_161.out
                    have hnc140 := NB161_160.out
                    have hnb141 := NB160_163.out
                    have hnc141 := NB163_160.out
                    have hnb142 := NB160_164.out
                    have hnc142 := NB164_160.out
                    have hcz143_0 : wc.cell? ⟨gb160, 0, none⟩ = some (.int .i64 a1_0) := (blk_cell BK160.out 0).trans rfl
                    have hcz143_1 : wc.cell? ⟨gb160, 1, none⟩ = some (.int .i64 a1_1) := (blk_cell BK160.out 1).trans rfl
                    have hcz143_2 : wc.cell? ⟨gb160, 2, none⟩ = some (.string a1_2) := (blk_cell BK160.out 2).trans rfl
                    have hfz143_0 := blk_frozen BK160.out 0
                    have hfz143_1 := blk_frozen BK160.out 1
                    have hfz143_2 := blk_frozen BK160.out 2
                    try go_wp2_with (first | ((with_reducible refine gate_callee (f := 13) rfl ?_); refine goesL_ (some 24) rfl rfl Try.func13 (by kernel_rfl) rfl #[.agg #[.string a0_0, .string a0_1, .int .i64 a0_2], .string a1_2] rfl (by (try simp only [List.map_toArray, List.map_cons, List.map_nil]); first | done | rfl | (simp only [List.length_drop, List.length_take]; rfl)) ?_; (with_reducible refine (file_Append.calls a0_0 a0_1 a0_2 a1_2 t185 t186 t187 t188 _ A130.out).mono ?_); rintro e w144 ⟨rfl, hb⟩; refine ⟨_, rfl, ?_⟩; have n0_ := Aside0.mk (blk_below (g := gb159) (o := .cells #[.string a0_0, .string a0_1, .int .i64 a0_2] 23 (0, 0)) (by (with_reducible repeat (first | refine blk_drewN ?_ _ | refine blk_drew ?_ | refine blk_alloc ?_ _)); exact BK159.out) hb); have n1_ := Aside0.mk (blk_below (g := gb160) (o := .cells #[.int .i64 a1_0, .int .i64 a1_1, .string a1_2] 32 (0, 0)) (by (with_reducible repeat (first | refine blk_drewN ?_ _ | refine blk_drew ?_ | refine blk_alloc ?_ _)); exact BK160.out) hb); have n2_ := Aside0.mk (blk_below (g := gb161) (o := .cells #[.string (⟨#[]⟩ : ByteArray), .string (⟨#[]⟩ : ByteArray), .int .i64 0] 23 (0, 0)) (by (with_reducible repeat (first | refine blk_drewN ?_ _ | refine blk_drew ?_ | refine blk_alloc ?_ _)); exact BK161.out) hb); have n3_ := Aside0.mk (blk_below (g := gb163) (o := .cells #[.string (⟨#[]⟩ : ByteArray), .string (⟨#[]⟩ : ByteArray), .int .i64 0] 23 (0, 0)) (by (with_reducible repeat (first | refine blk_drewN ?_ _ | refine blk_drew ?_ | refine blk_alloc ?_ _)); exact BK163.out) hb); have n4_ := Aside0.mk (blk_below (g := gb164) (o := .cells #[.string (⟨#[]⟩ : ByteArray), .string (⟨#[]⟩ : ByteArray), .int .i64 0] 23 (0, 0)) (by (with_reducible repeat (first | refine blk_drewN ?_ _ | refine blk_drew ?_ | refine blk_alloc ?_ _)); exact BK164.out) hb); have n5_ := Aside0.mk (below_step (by repeat (first | (with_reducible first | exact HB.out | apply below_alloc | apply pw_below_drewN | apply below_drew1 | refine below_set ?_ GE159.out | refine below_set ?_ GE160.out | refine below_set ?_ GE161.out | refine below_set ?_ GE163.out | refine below_set ?_ GE164.out) | exact HB.out)) hb); clear BK159; clear BK160; clear BK161; clear BK163; clear BK164; clear HB; have BK159 := n0_; have BK160 := n1_; have BK161 := n2_; have BK163 := n3_; have BK164 := n4_; have HB := n5_; clear n0_ n1_ n2_ n3_ n4_ n5_; (try clear hb); (try clear hb2); (try clear hk); (try clear hi); have hnb145 := NB163_161.out; have hnc145 := NB161_163.out; have hnb146 := NB163_164.out; have hnc146 := NB164_163.out; have hcz147_0 : w144.cell? ⟨gb163, 0, none⟩ = some (.string (⟨#[]⟩ : ByteArray)) := (blk_cell BK163.out 0).trans rfl; have hcz147_1 : w144.cell? ⟨gb163, 1, none⟩ = some (.string (⟨#[]⟩ : ByteArray)) := (blk_cell BK163.out 1).trans rfl; have hcz147_2 : w144.cell? ⟨gb163, 2, none⟩ = some (.int .i64 0) := (blk_cell BK163.out 2).trans rfl; have hfz147_0 := blk_frozen BK163.out 0; have hfz147_1 := blk_frozen BK163.out 1; have hfz147_2 := blk_frozen BK163.out 2))
                    have n0_ : Aside0 ((((w144.setCell ⟨gb163, 0, none⟩ (.string t185)).setCell ⟨gb163, 1, none⟩ (.string t186)).setCell ⟨gb163, 2, none⟩ (.int .i64 t187)).heap[gb159]? = some (.cells #[.string a0_0, .string a0_1, .int .i64 a0_2] 23 (0, 0))) := ⟨by (with_reducible repeat (first | refine blk_drewN ?_ _ | refine blk_drew ?_ | refine blk_alloc ?_ _)); refine blk_far ?_ NB159_163.out _; (with_reducible repeat (first | refine blk_drewN ?_ _ | refine blk_drew ?_ | refine blk_alloc ?_ _)); refine blk_far ?_ NB159_163.out _; (with_reducible repeat (first | refine blk_drewN ?_ _ | refine blk_drew ?_ | refine blk_alloc ?_ _)); refine blk_far ?_ NB159_163.out _; (with_reducible repeat (first | refine blk_drewN ?_ _ | refine blk_drew ?_ | refine blk_alloc ?_ _)); exact BK159.out⟩
                    have n1_ : Aside0 ((((w144.setCell ⟨gb163, 0, none⟩ (.string t185)).setCell ⟨gb163, 1, none⟩ (.string t186)).setCell ⟨gb163, 2, none⟩ (.int .i64 t187)).heap[gb160]? = some (.cells #[.int .i64 a1_0, .int .i64 a1_1, .string a1_2] 32 (0, 0))) := ⟨by (with_reducible repeat (first | refine blk_drewN ?_ _ | refine blk_drew ?_ | refine blk_alloc ?_ _)); refine blk_far ?_ NB160_163.out _; (with_reducible repeat (first | refine blk_drewN ?_ _ | refine blk_drew ?_ | refine blk_alloc ?_ _)); refine blk_far ?_ NB160_163.out _; (with_reducible repeat (first | refine blk_drewN ?_ _ | refine blk_drew ?_ | refine blk_alloc ?_ _)); refine blk_far ?_ NB160_163.out _; (with_reducible repeat (first | refine blk_drewN ?_ _ | refine blk_drew ?_ | refine blk_alloc ?_ _)); exact BK160.out⟩
                    have n2_ : Aside0 ((((w144.setCell ⟨gb163, 0, none⟩ (.string t185)).setCell ⟨gb163, 1, none⟩ (.string t186)).setCell ⟨gb163, 2, none⟩ (.int .i64 t187)).heap[gb161]? = some (.cells #[.string (⟨#[]⟩ : ByteArray), .string (⟨#[]⟩ : ByteArray), .int .i64 0] 23 (0, 0))) := ⟨by (with_reducible repeat (first | refine blk_drewN ?_ _ | refine blk_drew ?_ | refine blk_alloc ?_ _)); refine blk_far ?_ NB161_163.out _; (with_reducible repeat (first | refine blk_drewN ?_ _ | refine blk_drew ?_ | refine blk_alloc ?_ _)); refine blk_far ?_ NB161_163.out _; (with_reducible repeat (first | refine blk_drewN ?_ _ | refine blk_drew ?_ | refine blk_alloc ?_ _)); refine blk_far ?_ NB161_163.out _; (with_reducible repeat (first | refine blk_drewN ?_ _ | refine blk_drew ?_ | refine blk_alloc ?_ _)); exact BK161.out⟩
                    have n3_ : Aside0 ((((w144.setCell ⟨gb163, 0, none⟩ (.string t185)).setCell ⟨gb163, 1, none⟩ (.string t186)).setCell ⟨gb163, 2, none⟩ (.int .i64 t187)).heap[gb163]? = some (.cells #[.string t185, .string t186, .int .i64 t187] 23 (0, 0))) := ⟨by (with_reducible repeat (first | refine blk_drewN ?_ _ | refine blk_drew ?_ | refine blk_alloc ?_ _)); refine blk_put (cs := #[.string t185, .string t186, .int .i64 0]) ?_ 2 _ rfl; (with_reducible repeat (first | refine blk_drewN ?_ _ | refine blk_drew ?_ | refine blk_alloc ?_ _)); refine blk_put (cs := #[.string t185, .string (⟨#[]⟩ : ByteArray), .int .i64 0]) ?_ 1 _ rfl; (with_reducible repeat (first | refine blk_drewN ?_ _ | refine blk_drew ?_ | refine blk_alloc ?_ _)); refine blk_put (cs := #[.string (⟨#[]⟩ : ByteArray), .string (⟨#[]⟩ : ByteArray), .int .i64 0]) ?_ 0 _ rfl; (with_reducible repeat (first | refine blk_drewN ?_ _ | refine blk_drew ?_ | refine blk_alloc ?_ _)); exact BK163.out⟩
                    have n4_ : Aside0 ((((w144.setCell ⟨gb163, 0, none⟩ (.string t185)).setCell ⟨gb163, 1, none⟩ (.string t186)).setCell ⟨gb163, 2, none⟩ (.int .i64 t187)).heap[gb164]? = some (.cells #[.string (⟨#[]⟩ : ByteArray), .string (⟨#[]⟩ : ByteArray), .int .i64 0] 23 (0, 0))) := ⟨by (with_reducible repeat (first | refine blk_drewN ?_ _ | refine blk_drew ?_ | refine blk_alloc ?_ _)); refine blk_far ?_ NB164_163.out _; (with_reducible repeat (first | refine blk_drewN ?_ _ | refine blk_drew ?_ | refine blk_alloc ?_ _)); refine blk_far ?_ NB164_163.out _; (with_reducible repeat (first | refine blk_drewN ?_ _ | refine blk_drew ?_ | refine blk_alloc ?_ _)); refine blk_far ?_ NB164_163.out _; (with_reducible repeat (first | refine blk_drewN ?_ _ | refine blk_drew ?_ | refine blk_alloc ?_ _)); exact BK164.out⟩
                    have n5_ : Aside0 (Below w.heap.size w (((w144.setCell ⟨gb163, 0, none⟩ (.string t185)).setCell ⟨gb163, 1, none⟩ (.string t186)).setCell ⟨gb163, 2, none⟩ (.int .i64 t187))) := ⟨by repeat (first | (with_reducible first | exact HB.out | apply below_alloc | apply pw_below_drewN | apply below_drew1 | refine below_set ?_ GE159.out | refine below_set ?_ GE160.out | refine below_set ?_ GE161.out | refine below_set ?_ GE163.out | refine below_set ?_ GE164.out) | exact HB.out)⟩
                    (try clear BK159)
                    (try clear BK160)
                    (try clear BK161)
                    (try clear BK163)
                    (try clear BK164)
                    (try clear HB)
                    generalize (((w144.setCell ⟨gb163, 0, none⟩ (.string t185)).setCell ⟨gb163, 1, none⟩ (.string t186)).setCell ⟨gb163, 2, none⟩ (.int .i64 t187)) = w148 at n0_ n1_ n2_ n3_ n4_ n5_ ⊢
                    have BK159 := n0_
                    have BK160 := n1_
                    have BK161 := n2_
                    have BK163 := n3_
                    have BK164 := n4_
                    have HB := n5_
                    clear n0_ n1_ n2_ n3_ n4_ n5_
                    have n0_ := Aside0.mk (blk_drew BK159.out)
                    have n1_ := Aside0.mk (blk_drew BK160.out)
                    have n2_ := Aside0.mk (blk_drew BK161.out)
                    have n3_ := Aside0.mk (blk_drew BK163.out)
                    have n4_ := Aside0.mk (blk_drew BK164.out)
                    have n5_ := Aside0.mk (below_drew1 HB.out)
                    clear BK159
                    clear BK160
                    clear BK161
                    clear BK163
                    clear BK164
                    clear HB
                    have BK159 := n0_
                    have BK160 := n1_
                    have BK161 := n2_
                    have BK163 := n3_
                    have BK164 := n4_
                    have HB := n5_
                    clear n0_ n1_ n2_ n3_ n4_ n5_
                    refine start_ (n := 6) (S := fun w' => w'.cell? ⟨gb160, 0, none⟩ = some (.int .i64 a1_0) ∧ w'.cell? ⟨gb160, 1, none⟩ = some (.int .i64 a1_1) ∧ w'.cell? ⟨gb160, 2, none⟩ = some (.string a1_2) ∧ w'.cell? ⟨gb159, 0, none⟩ = some (.string a0_0) ∧ w'.cell? ⟨gb159, 1, none⟩ = some (.string a0_1) ∧ w'.cell? ⟨gb159, 2, none⟩ = some (.int .i64 a0_2)) (ds := []) #[false, false, false, false, false, false] (by kernel_rfl) rfl rfl ⟨(blk_cell BK160.out 0).trans rfl, (blk_cell BK160.out 1).trans rfl, (blk_cell BK160.out 2).trans rfl, (blk_cell BK159.out 0).trans rfl, (blk_cell BK159.out 1).trans rfl, (blk_cell BK159.out 2).trans rfl⟩ (fun hHeld => ?_)
                    generalize w148.drew = w149 at BK159 BK160 BK161 BK163 BK164 HB hHeld ⊢
                    refine pure_ (i := 0) (N := some 28) (v := ?_) (a' := ?_) #[true, false, false, false, false, false] rfl rfl (by kernel_rfl) (fun _ _ _ h => h) (Or.inl ⟨by rfl, ?_⟩) ?_ ?_
                    rotate_left
                    · intro w'
                      go_simp
                      with_reducible rfl
                    rotate_left
                    · simp only [Act.put, List.setIfInBounds_toArray, List.set_cons_zero, List.set_cons_succ, i64_w, i32_w]
                      rfl
                    refine take_ (i := 1) (N := some 29) (v := ?_) (a' := ?_) #[true, true, false, false, false, false] rfl rfl (by kernel_rfl) (fun _ _ _ h => h) (Or.inl ⟨by rfl, ?_⟩) hHeld ?_ ?_
                    rotate_left
                    · rintro w' ⟨s0, s1, s2, s3, s4, s5⟩
                      go_simp
                      with_reducible rfl
                    rotate_left
                    · simp only [Act.put, List.setIfInBounds_toArray, List.set_cons_zero, List.set_cons_succ, i64_w, i32_w]
                      rfl
                    refine pure_ (i := 2) (N := some 30) (v := ?_) (a' := ?_) #[true, true, true, false, false, false] rfl rfl (by kernel_rfl) (fun _ _ _ h => h) (Or.inl ⟨by rfl, ?_⟩) ?_ ?_
                    rotate_left
                    · intro w'
                      go_simp
                      with_reducible rfl
                    rotate_left
                    · simp only [Act.put, List.setIfInBounds_toArray, List.set_cons_zero, List.set_cons_succ, i64_w, i32_w]
                      rfl
                    refine take_ (i := 3) (N := some 31) (v := ?_) (a' := ?_) #[true, true, true, true, false, false] rfl rfl (by kernel_rfl) (fun _ _ _ h => h) (Or.inl ⟨by rfl, ?_⟩) hHeld ?_ ?_
                    rotate_left
                    · rintro w' ⟨s0, s1, s2, s3, s4, s5⟩
                      go_simp
                      with_reducible rfl
                    rotate_left
                    · simp only [Act.put, List.setIfInBounds_toArray, List.set_cons_zero, List.set_cons_succ, i64_w, i32_w]
                      rfl
                    refine one_ (i := 4) (N := some 32) #[true, true, true, true, true, false] rfl rfl (by kernel_rfl) (by decide) (fun K hK => ?_)
                    refine goes_ Try.func43 (by kernel_rfl) rfl #[.agg #[.string a0_0, .string a0_1, .int .i64 a0_2]] (by rfl) rfl rfl (by (try simp only [List.map_toArray, List.map_cons, List.map_nil]); first | done | rfl | (simp only [List.length_drop, List.length_take]; rfl)) ?_
                    with_reducible refine (amanuensisref9_Free.calls a0_0 a0_1 a0_2 t189 _ A132.out).mono ?_
                    rintro e w150 ⟨rfl, hb⟩
                    refine ⟨_, rfl, ?_⟩
                    have n0_ := Aside0.mk (blk_below (g := gb159) (o := .cells #[.string a0_0, .string a0_1, .int .i64 a0_2] 23 (0, 0)) (by (with_reducible repeat (first | refine blk_drewN ?_ _ | refine blk_drew ?_ | refine blk_alloc ?_ _)); exact BK159.out) hb)
                    have n1_ := Aside0.mk (blk_below (g := gb160) (o := .cells #[.int .i64 a1_0, .int .i64 a1_1, .string a1_2] 32 (0, 0)) (by (with_reducible repeat (first | refine blk_drewN ?_ _ | refine blk_drew ?_ | refine blk_alloc ?_ _)); exact BK160.out) hb)
                    have n2_ := Aside0.mk (blk_below (g := gb161) (o := .cells #[.string (⟨#[]⟩ : ByteArray), .string (⟨#[]⟩ : ByteArray), .int .i64 0] 23 (0, 0)) (by (with_reducible repeat (first | refine blk_drewN ?_ _ | refine blk_drew ?_ | refine blk_alloc ?_ _)); exact BK161.out) hb)
                    have n3_ := Aside0.mk (blk_below (g := gb163) (o := .cells #[.string t185, .string t186, .int .i64 t187] 23 (0, 0)) (by (with_reducible repeat (first | refine blk_drewN ?_ _ | refine blk_drew ?_ | refine blk_alloc ?_ _)); exact BK163.out) hb)
                    have n4_ := Aside0.mk (blk_below (g := gb164) (o := .cells #[.string (⟨#[]⟩ : ByteArray), .string (⟨#[]⟩ : ByteArray), .int .i64 0] 23 (0, 0)) (by (with_reducible repeat (first | refine blk_drewN ?_ _ | refine blk_drew ?_ | refine blk_alloc ?_ _)); exact BK164.out) hb)
                    have n5_ := Aside0.mk (below_step (by repeat (first | (with_reducible first | exact HB.out | apply below_alloc | apply pw_below_drewN | apply below_drew1 | refine below_set ?_ GE159.out | refine below_set ?_ GE160.out | refine below_set ?_ GE161.out | refine below_set ?_ GE163.out | refine below_set ?_ GE164.out) | exact HB.out)) hb)
                    clear BK159
                    clear BK160
                    clear BK161
                    clear BK163
                    clear BK164
                    clear HB
                    have BK159 := n0_
                    have BK160 := n1_
                    have BK161 := n2_
                    have BK163 := n3_
                    have BK164 := n4_
                    have HB := n5_
                    clear n0_ n1_ n2_ n3_ n4_ n5_
                    (try clear hb)
                    (try clear hb2)
                    (try clear hk)
                    (try clear hi)
                    refine hK.out _ _ ⟨(blk_cell BK160.out 0).trans rfl, (blk_cell BK160.out 1).trans rfl, (blk_cell BK160.out 2).trans rfl, (blk_cell BK159.out 0).trans rfl, (blk_cell BK159.out 1).trans rfl, (blk_cell BK159.out 2).trans rfl⟩ (fun hHeld => ?_)
                    clear hK K
                    refine norm_ (a' := ?_) ?_ ?_
                    rotate_left
                    · show Act.put _ (some 32) _ = _
                      simp only [Act.put, List.setIfInBounds_toArray, List.set_cons_zero, List.set_cons_succ, i64_w, i32_w]
                      rfl
                    refine pure_ (i := 5) (N := some 33) (v := ?_) (a' := ?_) #[true, true, true, true, true, true] rfl rfl (by kernel_rfl) (fun _ _ _ h => h) (Or.inl ⟨by rfl, ?_⟩) ?_ ?_
                    rotate_left
                    · intro w'
                      go_simp
                      with_reducible rfl
                    rotate_left
                    · simp only [Act.put, List.setIfInBounds_toArray, List.set_cons_zero, List.set_cons_succ, i64_w, i32_w]
                      rfl
                    refine done_ (by kernel_rfl) ?_
                    try go_wp2
                    have n0_ := Aside0.mk (blk_drew BK159.out)
                    have n1_ := Aside0.mk (blk_drew BK160.out)
                    have n2_ := Aside0.mk (blk_drew BK161.out)
                    have n3_ := Aside0.mk (blk_drew BK163.out)
                    have n4_ := Aside0.mk (blk_drew BK164.out)
                    have n5_ := Aside0.mk (below_drew1 HB.out)
                    clear BK159
                    clear BK160
                    clear BK161
                    clear BK163
                    clear BK164
                    clear HB
                    have BK159 := n0_
                    have BK160 := n1_
                    have BK161 := n2_
                    have BK163 := n3_
                    have BK164 := n4_
                    have HB := n5_
                    clear n0_ n1_ n2_ n3_ n4_ n5_
                    refine start_ (n := 12) (S := fun w' => w'.cell? ⟨gb159, 0, none⟩ = some (.string a0_0) ∧ w'.cell? ⟨gb159, 1, none⟩ = some (.string a0_1) ∧ w'.cell? ⟨gb159, 2, none⟩ = some (.int .i64 a0_2) ∧ w'.cell? ⟨gb160, 0, none⟩ = some (.int .i64 a1_0) ∧ w'.cell? ⟨gb160, 1, none⟩ = some (.int .i64 a1_1) ∧ w'.cell? ⟨gb160, 2, none⟩ = some (.string a1_2)) (ds := []) #[false, false, false, false, false, false, false, false, false, false, false, false] (by kernel_rfl) rfl rfl ⟨(blk_cell BK159.out 0).trans rfl, (blk_cell BK159.out 1).trans rfl, (blk_cell BK159.out 2).trans rfl, (blk_cell BK160.out 0).trans rfl, (blk_cell BK160.out 1).trans rfl, (blk_cell BK160.out 2).trans rfl⟩ (fun hHeld => ?_); refine with_tabW amanuensislaw12_step.tab10 amanuensislaw12_step.bits10 (fun HT_ HW_ => ?_)
                    generalize w150.drew = w151 at BK159 BK160 BK161 BK163 BK164 HB hHeld ⊢
                    refine pure_ (i := 0) (N := some 34) (v := ?_) (a' := ?_) #[true, false, false, false, false, false, false, false, false, false, false, false] rfl rfl (any_of HT_.out (by kernel_rfl)) (fun _ _ _ h => h) (Or.inl ⟨by rfl, ?_⟩) ?_ ?_
                    rotate_left
                    · intro w'
                      go_simp
                      with_reducible rfl
                    rotate_left
                    · simp only [Act.put, List.setIfInBounds_toArray, List.set_cons_zero, List.set_cons_succ, i64_w, i32_w]
                      rfl
                    refine pure_ (i := 2) (N := some 36) (v := ?_) (a' := ?_) #[true, false, true, false, false, false, false, false, false, false, false, false] rfl rfl (any_of HT_.out (by kernel_rfl)) (fun _ _ _ h => h) (Or.inl ⟨by rfl, ?_⟩) ?_ ?_
                    rotate_left
                    · intro w'
                      go_simp
                      with_reducible rfl
                    rotate_left
                    · simp only [Act.put, List.setIfInBounds_toArray, List.set_cons_zero, List.set_cons_succ, i64_w, i32_w]
                      rfl
                    refine pure_ (i := 4) (N := some 38) (v := ?_) (a' := ?_) #[true, false, true, false, true, false, false, false, false, false, false, false] rfl rfl (any_of HT_.out (by kernel_rfl)) (fun _ _ _ h => h) (Or.inl ⟨by rfl, ?_⟩) ?_ ?_
                    rotate_left
                    · intro w'
                      go_simp
                      with_reducible rfl
                    rotate_left
                    · simp only [Act.put, List.setIfInBounds_toArray, List.set_cons_zero, List.set_cons_succ, i64_w, i32_w]
                      rfl
                    refine pure_ (i := 7) (N := some 41) (v := ?_) (a' := ?_) #[true, false, true, false, true, false, false, true, false, false, false, false] rfl rfl (any_of HT_.out (by kernel_rfl)) (fun _ _ _ h => h) (Or.inl ⟨by rfl, ?_⟩) ?_ ?_
                    rotate_left
                    · intro w'
                      go_simp
                      with_reducible rfl
                    rotate_left
                    · simp only [Act.put, List.setIfInBounds_toArray, List.set_cons_zero, List.set_cons_succ, i64_w, i32_w]
                      rfl
                    refine pure_ (i := 10) (N := some 7) (v := ?_) (a' := ?_) #[true, false, true, false, true, false, false, true, false, false, true, false] rfl rfl (any_of HT_.out (by kernel_rfl)) (fun _ _ _ h => h) (Or.inl ⟨by rfl, ?_⟩) ?_ ?_
                    rotate_left
                    · intro w'
                      go_simp
                      with_reducible rfl
                    rotate_left
                    · simp only [Act.put, List.setIfInBounds_toArray, List.set_cons_zero, List.set_cons_succ, i64_w, i32_w]
                      rfl
                    refine take_ (i := 1) (N := some 35) (v := ?_) (a' := ?_) #[true, true, true, false, true, false, false, true, false, false, true, false] rfl rfl (take_ofW HT_.out HW_.out (by kernel_rfl)) (fun _ _ _ h => h) (Or.inl ⟨by rfl, ?_⟩) hHeld ?_ ?_
                    rotate_left
                    · rintro w' ⟨s0, s1, s2, s3, s4, s5⟩
                      go_simp
                      with_reducible rfl
                    rotate_left
                    · simp only [Act.put, List.setIfInBounds_toArray, List.set_cons_zero, List.set_cons_succ, i64_w, i32_w]
                      rfl
                    refine take_ (i := 3) (N := some 37) (v := ?_) (a' := ?_) #[true, true, true, true, true, false, false, true, false, false, true, false] rfl rfl (take_ofW HT_.out HW_.out (by kernel_rfl)) (fun _ _ _ h => h) (Or.inl ⟨by rfl, ?_⟩) hHeld ?_ ?_
                    rotate_left
                    · rintro w' ⟨s0, s1, s2, s3, s4, s5⟩
                      go_simp
                      with_reducible rfl
                    rotate_left
                    · simp only [Act.put, List.setIfInBounds_toArray, List.set_cons_zero, List.set_cons_succ, i64_w, i32_w]
                      rfl
                    refine take_ (i := 5) (N := some 39) (v := ?_) (a' := ?_) #[true, true, true, true, true, true, false, true, false, false, true, false] rfl rfl (take_ofW HT_.out HW_.out (by kernel_rfl)) (fun _ _ _ h => h) (Or.inl ⟨by rfl, ?_⟩) hHeld ?_ ?_
                    rotate_left
                    · rintro w' ⟨s0, s1, s2, s3, s4, s5⟩
                      go_simp
                      with_reducible rfl
                    rotate_left
                    · simp only [Act.put, List.setIfInBounds_toArray, List.set_cons_zero, List.set_cons_succ, i64_w, i32_w]
                      rfl
                    refine pure_ (i := 6) (N := some 40) (v := ?_) (a' := ?_) #[true, true, true, true, true, true, true, true, false, false, true, false] rfl rfl (any_of HT_.out (by kernel_rfl)) (fun _ _ _ h => h) (Or.inl ⟨by rfl, ?_⟩) ?_ ?_
                    rotate_left
                    · intro w'
                      go_simp
                      with_reducible rfl
                    rotate_left
                    · simp only [Act.put, List.setIfInBounds_toArray, List.set_cons_zero, List.set_cons_succ, i64_w, i32_w]
                      rfl
                    refine take_ (i := 8) (N := some 42) (v := ?_) (a' := ?_) #[true, true, true, true, true, true, true, true, true, false, true, false] rfl rfl (take_ofW HT_.out HW_.out (by kernel_rfl)) (fun _ _ _ h => h) (Or.inl ⟨by rfl, ?_⟩) hHeld ?_ ?_
                    rotate_left
                    · rintro w' ⟨s0, s1, s2, s3, s4, s5⟩
                      go_simp
                      with_reducible rfl
                    rotate_left
                    · simp only [Act.put, List.setIfInBounds_toArray, List.set_cons_zero, List.set_cons_succ, i64_w, i32_w]
                      rfl
                    refine pure_ (i := 9) (N := some 43) (v := ?_) (a' := ?_) #[true, true, true, true, true, true, true, true, true, true, true, false] rfl rfl (any_of HT_.out (by kernel_rfl)) (fun _ _ _ h => h) (Or.inl ⟨by rfl, ?_⟩) ?_ ?_
                    rotate_left
                    · intro w'
                      go_simp
                      with_reducible rfl
                    rotate_left
                    · simp only [Act.put, List.setIfInBounds_toArray, List.set_cons_zero, List.set_cons_succ, i64_w, i32_w]
                      rfl
                    refine one_ (i := 11) (N := none) #[true, true, true, true, true, true, true, true, true, true, true, true] rfl rfl (one_of HT_.out (by kernel_rfl)) (by decide) (fun K hK => ?_)
                    have hs152 : w151.cell? ⟨gb164, 0, none⟩ = some (.string (⟨#[]⟩ : ByteArray)) := (blk_cell BK164.out 0).trans rfl
                    have hfs152 := blk_frozen BK164.out 0
                    have hns152_0 := NB159_164.out
                    have hns152_1 := NB160_164.out
                    have hns152_2 := NB161_164.out
                    have hns152_3 := NB163_164.out
                    have hms152_0 := NB164_159.out
                    have hms152_1 := NB164_160.out
                    have hms152_2 := NB164_161.out
                    have hms152_3 := NB164_163.out
                    have hs153 : w151.cell? ⟨gb164, 1, none⟩ = some (.string (⟨#[]⟩ : ByteArray)) := (blk_cell BK164.out 1).trans rfl
                    have hfs153 := blk_frozen BK164.out 1
                    have hns153_0 := NB159_164.out
                    have hns153_1 := NB160_164.out
                    have hns153_2 := NB161_164.out
                    have hns153_3 := NB163_164.out
                    have hms153_0 := NB164_159.out
                    have hms153_1 := NB164_160.out
                    have hms153_2 := NB164_161.out
                    have hms153_3 := NB164_163.out
                    have hs154 : w151.cell? ⟨gb164, 2, none⟩ = some (.int .i64 0) := (blk_cell BK164.out 2).trans rfl
                    have hfs154 := blk_frozen BK164.out 2
                    have hns154_0 := NB159_164.out
                    have hns154_1 := NB160_164.out
                    have hns154_2 := NB161_164.out
                    have hns154_3 := NB163_164.out
                    have hms154_0 := NB164_159.out
                    have hms154_1 := NB164_160.out
                    have hms154_2 := NB164_161.out
                    have hms154_3 := NB164_163.out
                    refine skip_ (w1 := ?_) (by rfl) rfl ?_ ?_
                    rotate_left
                    · go_simp
                      rfl
                    refine hK.out _ _ ⟨((cell_far (p := ⟨gb164, _, none⟩) NB159_164.out _).trans (((cell_far (p := ⟨gb164, _, none⟩) NB159_164.out _).trans (((cell_far (p := ⟨gb164, _, none⟩) NB159_164.out _).trans (hHeld.1)))))), ((cell_far (p := ⟨gb164, _, none⟩) NB159_164.out _).trans (((cell_far (p := ⟨gb164, _, none⟩) NB159_164.out _).trans (((cell_far (p := ⟨gb164, _, none⟩) NB159_164.out _).trans (hHeld.2.1)))))), ((cell_far (p := ⟨gb164, _, none⟩) NB159_164.out _).trans (((cell_far (p := ⟨gb164, _, none⟩) NB159_164.out _).trans (((cell_far (p := ⟨gb164, _, none⟩) NB159_164.out _).trans (hHeld.2.2.1)))))), ((cell_far (p := ⟨gb164, _, none⟩) NB160_164.out _).trans (((cell_far (p := ⟨gb164, _, none⟩) NB160_164.out _).trans (((cell_far (p := ⟨gb164, _, none⟩) NB160_164.out _).trans (hHeld.2.2.2.1)))))), ((cell_far (p := ⟨gb164, _, none⟩) NB160_164.out _).trans (((cell_far (p := ⟨gb164, _, none⟩) NB160_164.out _).trans (((cell_far (p := ⟨gb164, _, none⟩) NB160_164.out _).trans (hHeld.2.2.2.2.1)))))), ((cell_far (p := ⟨gb164, _, none⟩) NB160_164.out _).trans (((cell_far (p := ⟨gb164, _, none⟩) NB160_164.out _).trans (((cell_far (p := ⟨gb164, _, none⟩) NB160_164.out _).trans (hHeld.2.2.2.2.2))))))⟩ (fun hHeld => ?_)
                    clear hK K
                    refine done_ (done_of HT_.out (by kernel_rfl)) ?_
                    try go_wp2
                    go_meet
                    case rel => exact ⟨_, (0), (t188), (t185), (t186), (t187), (a0_0), (a0_1 ++ a1_2), (a0_2), (by first | rfl | (simp; done) | (simp [*]; done)), (by first | rfl | (simp; done) | (simp [*]; done)), H', ⟨by have := HJ18.out; first | omega | exact Nat.le_refl _⟩, ⟨by (with_reducible repeat (first | refine blk_drewN ?_ _ | refine blk_drew ?_ | refine blk_alloc ?_ _)); refine blk_far ?_ NB159_164.out _; (with_reducible repeat (first | refine blk_drewN ?_ _ | refine blk_drew ?_ | refine blk_alloc ?_ _)); refine blk_far ?_ NB159_164.out _; (with_reducible repeat (first | refine blk_drewN ?_ _ | refine blk_drew ?_ | refine blk_alloc ?_ _)); refine blk_far ?_ NB159_164.out _; (with_reducible repeat (first | refine blk_drewN ?_ _ | refine blk_drew ?_ | refine blk_alloc ?_ _)); exact BK159.out⟩, ⟨by (with_reducible repeat (first | refine blk_drewN ?_ _ | refine blk_drew ?_ | refine blk_alloc ?_ _)); refine blk_far ?_ NB160_164.out _; (with_reducible repeat (first | refine blk_drewN ?_ _ | refine blk_drew ?_ | refine blk_alloc ?_ _)); refine blk_far ?_ NB160_164.out _; (with_reducible repeat (first | refine blk_drewN ?_ _ | refine blk_drew ?_ | refine blk_alloc ?_ _)); refine blk_far ?_ NB160_164.out _; (with_reducible repeat (first | refine blk_drewN ?_ _ | refine blk_drew ?_ | refine blk_alloc ?_ _)); exact BK160.out⟩, ⟨by (with_reducible repeat (first | refine blk_drewN ?_ _ | refine blk_drew ?_ | refine blk_alloc ?_ _)); refine blk_far ?_ NB161_164.out _; (with_reducible repeat (first | refine blk_drewN ?_ _ | refine blk_drew ?_ | refine blk_alloc ?_ _)); refine blk_far ?_ NB161_164.out _; (with_reducible repeat (first | refine blk_drewN ?_ _ | refine blk_drew ?_ | refine blk_alloc ?_ _)); refine blk_far ?_ NB161_164.out _; (with_reducible repeat (first | refine blk_drewN ?_ _ | refine blk_drew ?_ | refine blk_alloc ?_ _)); exact BK161.out⟩, ⟨by (with_reducible repeat (first | refine blk_drewN ?_ _ | refine blk_drew ?_ | refine blk_alloc ?_ _)); refine blk_far ?_ NB163_164.out _; (with_reducible repeat (first | refine blk_drewN ?_ _ | refine blk_drew ?_ | refine blk_alloc ?_ _)); refine blk_far ?_ NB163_164.out _; (with_reducible repeat (first | refine blk_drewN ?_ _ | refine blk_drew ?_ | refine blk_alloc ?_ _)); refine blk_far ?_ NB163_164.out _; (with_reducible repeat (first | refine blk_drewN ?_ _ | refine blk_drew ?_ | refine blk_alloc ?_ _)); exact BK163.out⟩, ⟨by (with_reducible repeat (first | refine blk_drewN ?_ _ | refine blk_drew ?_ | refine blk_alloc ?_ _)); refine blk_put (cs := #[.string a0_0, .string (a0_1 ++ a1_2), .int .i64 0]) ?_ 2 _ rfl; (with_reducible repeat (first | refine blk_drewN ?_ _ | refine blk_drew ?_ | refine blk_alloc ?_ _)); refine blk_put (cs := #[.string a0_0, .string (⟨#[]⟩ : ByteArray), .int .i64 0]) ?_ 1 _ rfl; (with_reducible repeat (first | refine blk_drewN ?_ _ | refine blk_drew ?_ | refine blk_alloc ?_ _)); refine blk_put (cs := #[.string (⟨#[]⟩ : ByteArray), .string (⟨#[]⟩ : ByteArray), .int .i64 0]) ?_ 0 _ rfl; (with_reducible repeat (first | refine blk_drewN ?_ _ | refine blk_drew ?_ | refine blk_alloc ?_ _)); exact BK164.out⟩, ⟨by repeat (first | (with_reducible first | exact HB.out | apply below_alloc | apply pw_below_drewN | apply below_drew1 | refine below_set ?_ GE159.out | refine below_set ?_ GE160.out | refine below_set ?_ GE161.out | refine below_set ?_ GE163.out | refine below_set ?_ GE164.out) | exact HB.out)⟩⟩
                  · rw [if_neg c134] at H
                    exact absurd H (by simp)
                · rw [if_neg c133] at H
                  have c133b0 : decide ((a1_2.size : Int) ≤ t189) = false := decide_eq_false c133
                  clear c133
                  have H' := Aside0.mk H
                  clear H
                  have hnb155 := NB159_160.out
                  have hnc155 := NB160_159.out
                  have hnb156 := NB159_161.out
                  have hnc156 := NB161_159.out
                  have hnb157 := NB159_163.out
                  have hnc157 := NB163_159.out
                  have hnb158 := NB159_164.out
                  have hnc158 := NB164_159.out
                  have hcz159_0 : wc.cell? ⟨gb159, 0, none⟩ = some (.string a0_0) := (blk_cell BK159.out 0).trans rfl
                  have hcz159_1 : wc.cell? ⟨gb159, 1, none⟩ = some (.string a0_1) := (blk_cell BK159.out 1).trans rfl
                  have hcz159_2 : wc.cell? ⟨gb159, 2, none⟩ = some (.int .i64 a0_2) := (blk_cell BK159.out 2).trans rfl
                  have hfz159_0 := blk_frozen BK159.out 0
                  have hfz159_1 := blk_frozen BK159.out 1
                  have hfz159_2 := blk_frozen BK159.out 2
                  have hnb160 := NB160_161.out
                  have hnc160 := NB161_160.out
                  have hnb161 := NB160_163.out
                  have hnc161 := NB163_160.out
                  have hnb162 := NB160_164.out
                  have hnc162 := NB164_160.out
                  have hcz163_0 : wc.cell? ⟨gb160, 0, none⟩ = some (.int .i64 a1_0) := (blk_cell BK160.out 0).trans rfl
                  have hcz163_1 : wc.cell? ⟨gb160, 1, none⟩ = some (.int .i64 a1_1) := (blk_cell BK160.out 1).trans rfl
                  have hcz163_2 : wc.cell? ⟨gb160, 2, none⟩ = some (.string a1_2) := (blk_cell BK160.out 2).trans rfl
                  have hfz163_0 := blk_frozen BK160.out 0
                  have hfz163_1 := blk_frozen BK160.out 1
                  have hfz163_2 := blk_frozen BK160.out 2
                  try go_wp2_with (first | ((with_reducible refine gate_callee (f := 13) rfl ?_); refine goesL_ (some 24) rfl rfl Try.func13 (by kernel_rfl) rfl #[.agg #[.string a0_0, .string a0_1, .int .i64 a0_2], .string a1_2] rfl (by (try simp only [List.map_toArray, List.map_cons, List.map_nil]); first | done | rfl | (simp only [List.length_drop, List.length_take]; rfl)) ?_; (with_reducible refine (file_Append.calls a0_0 a0_1 a0_2 a1_2 t185 t186 t187 t188 _ A130.out).mono ?_); rintro e w164 ⟨rfl, hb⟩; refine ⟨_, rfl, ?_⟩; have n0_ := Aside0.mk (blk_below (g := gb159) (o := .cells #[.string a0_0, .string a0_1, .int .i64 a0_2] 23 (0, 0)) (by (with_reducible repeat (first | refine blk_drewN ?_ _ | refine blk_drew ?_ | refine blk_alloc ?_ _)); exact BK159.out) hb); have n1_ := Aside0.mk (blk_below (g := gb160) (o := .cells #[.int .i64 a1_0, .int .i64 a1_1, .string a1_2] 32 (0, 0)) (by (with_reducible repeat (first | refine blk_drewN ?_ _ | refine blk_drew ?_ | refine blk_alloc ?_ _)); exact BK160.out) hb); have n2_ := Aside0.mk (blk_below (g := gb161) (o := .cells #[.string (⟨#[]⟩ : ByteArray), .string (⟨#[]⟩ : ByteArray), .int .i64 0] 23 (0, 0)) (by (with_reducible repeat (first | refine blk_drewN ?_ _ | refine blk_drew ?_ | refine blk_alloc ?_ _)); exact BK161.out) hb); have n3_ := Aside0.mk (blk_below (g := gb163) (o := .cells #[.string (⟨#[]⟩ : ByteArray), .string (⟨#[]⟩ : ByteArray), .int .i64 0] 23 (0, 0)) (by (with_reducible repeat (first | refine blk_drewN ?_ _ | refine blk_drew ?_ | refine blk_alloc ?_ _)); exact BK163.out) hb); have n4_ := Aside0.mk (blk_below (g := gb164) (o := .cells #[.string (⟨#[]⟩ : ByteArray), .string (⟨#[]⟩ : ByteArray), .int .i64 0] 23 (0, 0)) (by (with_reducible repeat (first | refine blk_drewN ?_ _ | refine blk_drew ?_ | refine blk_alloc ?_ _)); exact BK164.out) hb); have n5_ := Aside0.mk (below_step (by repeat (first | (with_reducible first | exact HB.out | apply below_alloc | apply pw_below_drewN | apply below_drew1 | refine below_set ?_ GE159.out | refine below_set ?_ GE160.out | refine below_set ?_ GE161.out | refine below_set ?_ GE163.out | refine below_set ?_ GE164.out) | exact HB.out)) hb); clear BK159; clear BK160; clear BK161; clear BK163; clear BK164; clear HB; have BK159 := n0_; have BK160 := n1_; have BK161 := n2_; have BK163 := n3_; have BK164 := n4_; have HB := n5_; clear n0_ n1_ n2_ n3_ n4_ n5_; (try clear hb); (try clear hb2); (try clear hk); (try clear hi); have hnb165 := NB163_161.out; have hnc165 := NB161_163.out; have hnb166 := NB163_164.out; have hnc166 := NB164_163.out; have hcz167_0 : w164.cell? ⟨gb163, 0, none⟩ = some (.string (⟨#[]⟩ : ByteArray)) := (blk_cell BK163.out 0).trans rfl; have hcz167_1 : w164.cell? ⟨gb163, 1, none⟩ = some (.string (⟨#[]⟩ : ByteArray)) := (blk_cell BK163.out 1).trans rfl; have hcz167_2 : w164.cell? ⟨gb163, 2, none⟩ = some (.int .i64 0) := (blk_cell BK163.out 2).trans rfl; have hfz167_0 := blk_frozen BK163.out 0; have hfz167_1 := blk_frozen BK163.out 1; have hfz167_2 := blk_frozen BK163.out 2))
                  have n0_ : Aside0 ((((w164.setCell ⟨gb163, 0, none⟩ (.string t185)).setCell ⟨gb163, 1, none⟩ (.string t186)).setCell ⟨gb163, 2, none⟩ (.int .i64 t187)).heap[gb159]? = some (.cells #[.string a0_0, .string a0_1, .int .i64 a0_2] 23 (0, 0))) := ⟨by (with_reducible repeat (first | refine blk_drewN ?_ _ | refine blk_drew ?_ | refine blk_alloc ?_ _)); refine blk_far ?_ NB159_163.out _; (with_reducible repeat (first | refine blk_drewN ?_ _ | refine blk_drew ?_ | refine blk_alloc ?_ _)); refine blk_far ?_ NB159_163.out _; (with_reducible repeat (first | refine blk_drewN ?_ _ | refine blk_drew ?_ | refine blk_alloc ?_ _)); refine blk_far ?_ NB159_163.out _; (with_reducible repeat (first | refine blk_drewN ?_ _ | refine blk_drew ?_ | refine blk_alloc ?_ _)); exact BK159.out⟩
                  have n1_ : Aside0 ((((w164.setCell ⟨gb163, 0, none⟩ (.string t185)).setCell ⟨gb163, 1, none⟩ (.string t186)).setCell ⟨gb163, 2, none⟩ (.int .i64 t187)).heap[gb160]? = some (.cells #[.int .i64 a1_0, .int .i64 a1_1, .string a1_2] 32 (0, 0))) := ⟨by (with_reducible repeat (first | refine blk_drewN ?_ _ | refine blk_drew ?_ | refine blk_alloc ?_ _)); refine blk_far ?_ NB160_163.out _; (with_reducible repeat (first | refine blk_drewN ?_ _ | refine blk_drew ?_ | refine blk_alloc ?_ _)); refine blk_far ?_ NB160_163.out _; (with_reducible repeat (first | refine blk_drewN ?_ _ | refine blk_drew ?_ | refine blk_alloc ?_ _)); refine blk_far ?_ NB160_163.out _; (with_reducible repeat (first | refine blk_drewN ?_ _ | refine blk_drew ?_ | refine blk_alloc ?_ _)); exact BK160.out⟩
                  have n2_ : Aside0 ((((w164.setCell ⟨gb163, 0, none⟩ (.string t185)).setCell ⟨gb163, 1, none⟩ (.string t186)).setCell ⟨gb163, 2, none⟩ (.int .i64 t187)).heap[gb161]? = some (.cells #[.string (⟨#[]⟩ : ByteArray), .string (⟨#[]⟩ : ByteArray), .int .i64 0] 23 (0, 0))) := ⟨by (with_reducible repeat (first | refine blk_drewN ?_ _ | refine blk_drew ?_ | refine blk_alloc ?_ _)); refine blk_far ?_ NB161_163.out _; (with_reducible repeat (first | refine blk_drewN ?_ _ | refine blk_drew ?_ | refine blk_alloc ?_ _)); refine blk_far ?_ NB161_163.out _; (with_reducible repeat (first | refine blk_drewN ?_ _ | refine blk_drew ?_ | refine blk_alloc ?_ _)); refine blk_far ?_ NB161_163.out _; (with_reducible repeat (first | refine blk_drewN ?_ _ | refine blk_drew ?_ | refine blk_alloc ?_ _)); exact BK161.out⟩
                  have n3_ : Aside0 ((((w164.setCell ⟨gb163, 0, none⟩ (.string t185)).setCell ⟨gb163, 1, none⟩ (.string t186)).setCell ⟨gb163, 2, none⟩ (.int .i64 t187)).heap[gb163]? = some (.cells #[.string t185, .string t186, .int .i64 t187] 23 (0, 0))) := ⟨by (with_reducible repeat (first | refine blk_drewN ?_ _ | refine blk_drew ?_ | refine blk_alloc ?_ _)); refine blk_put (cs := #[.string t185, .string t186, .int .i64 0]) ?_ 2 _ rfl; (with_reducible repeat (first | refine blk_drewN ?_ _ | refine blk_drew ?_ | refine blk_alloc ?_ _)); refine blk_put (cs := #[.string t185, .string (⟨#[]⟩ : ByteArray), .int .i64 0]) ?_ 1 _ rfl; (with_reducible repeat (first | refine blk_drewN ?_ _ | refine blk_drew ?_ | refine blk_alloc ?_ _)); refine blk_put (cs := #[.string (⟨#[]⟩ : ByteArray), .string (⟨#[]⟩ : ByteArray), .int .i64 0]) ?_ 0 _ rfl; (with_reducible repeat (first | refine blk_drewN ?_ _ | refine blk_drew ?_ | refine blk_alloc ?_ _)); exact BK163.out⟩
                  have n4_ : Aside0 ((((w164.setCell ⟨gb163, 0, none⟩ (.string t185)).setCell ⟨gb163, 1, none⟩ (.string t186)).setCell ⟨gb163, 2, none⟩ (.int .i64 t187)).heap[gb164]? = some (.cells #[.string (⟨#[]⟩ : ByteArray), .string (⟨#[]⟩ : ByteArray), .int .i64 0] 23 (0, 0))) := ⟨by (with_reducible repeat (first | refine blk_drewN ?_ _ | refine blk_drew ?_ | refine blk_alloc ?_ _)); refine blk_far ?_ NB164_163.out _; (with_reducible repeat (first | refine blk_drewN ?_ _ | refine blk_drew ?_ | refine blk_alloc ?_ _)); refine blk_far ?_ NB164_163.out _; (with_reducible repeat (first | refine blk_drewN ?_ _ | refine blk_drew ?_ | refine blk_alloc ?_ _)); refine blk_far ?_ NB164_163.out _; (with_reducible repeat (first | refine blk_drewN ?_ _ | refine blk_drew ?_ | refine blk_alloc ?_ _)); exact BK164.out⟩
                  have n5_ : Aside0 (Below w.heap.size w (((w164.setCell ⟨gb163, 0, none⟩ (.string t185)).setCell ⟨gb163, 1, none⟩ (.string t186)).setCell ⟨gb163, 2, none⟩ (.int .i64 t187))) := ⟨by repeat (first | (with_reducible first | exact HB.out | apply below_alloc | apply pw_below_drewN | apply below_drew1 | refine below_set ?_ GE159.out | refine below_set ?_ GE160.out | refine below_set ?_ GE161.out | refine below_set ?_ GE163.out | refine below_set ?_ GE164.out) | exact HB.out)⟩
                  (try clear BK159)
                  (try clear BK160)
                  (try clear BK161)
                  (try clear BK163)
                  (try clear BK164)
                  (try clear HB)
                  generalize (((w164.setCell ⟨gb163, 0, none⟩ (.string t185)).setCell ⟨gb163, 1, none⟩ (.string t186)).setCell ⟨gb163, 2, none⟩ (.int .i64 t187)) = w168 at n0_ n1_ n2_ n3_ n4_ n5_ ⊢
                  have BK159 := n0_
                  have BK160 := n1_
                  have BK161 := n2_
                  have BK163 := n3_
                  have BK164 := n4_
                  have HB := n5_
                  clear n0_ n1_ n2_ n3_ n4_ n5_
                  have n0_ := Aside0.mk (blk_drew BK159.out)
                  have n1_ := Aside0.mk (blk_drew BK160.out)
                  have n2_ := Aside0.mk (blk_drew BK161.out)
                  have n3_ := Aside0.mk (blk_drew BK163.out)
                  have n4_ := Aside0.mk (blk_drew BK164.out)
                  have n5_ := Aside0.mk (below_drew1 HB.out)
                  clear BK159
                  clear BK160
                  clear BK161
                  clear BK163
                  clear BK164
                  clear HB
                  have BK159 := n0_
                  have BK160 := n1_
                  have BK161 := n2_
                  have BK163 := n3_
                  have BK164 := n4_
                  have HB := n5_
                  clear n0_ n1_ n2_ n3_ n4_ n5_
                  refine start_ (n := 6) (S := fun w' => w'.cell? ⟨gb160, 0, none⟩ = some (.int .i64 a1_0) ∧ w'.cell? ⟨gb160, 1, none⟩ = some (.int .i64 a1_1) ∧ w'.cell? ⟨gb160, 2, none⟩ = some (.string a1_2) ∧ w'.cell? ⟨gb159, 0, none⟩ = some (.string a0_0) ∧ w'.cell? ⟨gb159, 1, none⟩ = some (.string a0_1) ∧ w'.cell? ⟨gb159, 2, none⟩ = some (.int .i64 a0_2)) (ds := []) #[false, false, false, false, false, false] (by kernel_rfl) rfl rfl ⟨(blk_cell BK160.out 0).trans rfl, (blk_cell BK160.out 1).trans rfl, (blk_cell BK160.out 2).trans rfl, (blk_cell BK159.out 0).trans rfl, (blk_cell BK159.out 1).trans rfl, (blk_cell BK159.out 2).trans rfl⟩ (fun hHeld => ?_)
                  generalize w168.drew = w169 at BK159 BK160 BK161 BK163 BK164 HB hHeld ⊢
                  refine pure_ (i := 0) (N := some 28) (v := ?_) (a' := ?_) #[true, false, false, false, false, false] rfl rfl (by kernel_rfl) (fun _ _ _ h => h) (Or.inl ⟨by rfl, ?_⟩) ?_ ?_
                  rotate_left
                  · intro w'
                    go_simp
                    with_reducible rfl
                  rotate_left
                  · simp only [Act.put, List.setIfInBounds_toArray, List.set_cons_zero, List.set_cons_succ, i64_w, i32_w]
                    rfl
                  refine take_ (i := 1) (N := some 29) (v := ?_) (a' := ?_) #[true, true, false, false, false, false] rfl rfl (by kernel_rfl) (fun _ _ _ h => h) (Or.inl ⟨by rfl, ?_⟩) hHeld ?_ ?_
                  rotate_left
                  · rintro w' ⟨s0, s1, s2, s3, s4, s5⟩
                    go_simp
                    with_reducible rfl
                  rotate_left
                  · simp only [Act.put, List.setIfInBounds_toArray, List.set_cons_zero, List.set_cons_succ, i64_w, i32_w]
                    rfl
                  refine pure_ (i := 2) (N := some 30) (v := ?_) (a' := ?_) #[true, true, true, false, false, false] rfl rfl (by kernel_rfl) (fun _ _ _ h => h) (Or.inl ⟨by rfl, ?_⟩) ?_ ?_
                  rotate_left
                  · intro w'
                    go_simp
                    with_reducible rfl
                  rotate_left
                  · simp only [Act.put, List.setIfInBounds_toArray, List.set_cons_zero, List.set_cons_succ, i64_w, i32_w]
                    rfl
                  refine take_ (i := 3) (N := some 31) (v := ?_) (a' := ?_) #[true, true, true, true, false, false] rfl rfl (by kernel_rfl) (fun _ _ _ h => h) (Or.inl ⟨by rfl, ?_⟩) hHeld ?_ ?_
                  rotate_left
                  · rintro w' ⟨s0, s1, s2, s3, s4, s5⟩
                    go_simp
                    with_reducible rfl
                  rotate_left
                  · simp only [Act.put, List.setIfInBounds_toArray, List.set_cons_zero, List.set_cons_succ, i64_w, i32_w]
                    rfl
                  refine one_ (i := 4) (N := some 32) #[true, true, true, true, true, false] rfl rfl (by kernel_rfl) (by decide) (fun K hK => ?_)
                  refine goes_ Try.func43 (by kernel_rfl) rfl #[.agg #[.string a0_0, .string a0_1, .int .i64 a0_2]] (by rfl) rfl rfl (by (try simp only [List.map_toArray, List.map_cons, List.map_nil]); first | done | rfl | (simp only [List.length_drop, List.length_take]; rfl)) ?_
                  with_reducible refine (amanuensisref9_Free.calls a0_0 a0_1 a0_2 t189 _ A132.out).mono ?_
                  rintro e w170 ⟨rfl, hb⟩
                  refine ⟨_, rfl, ?_⟩
                  have n0_ := Aside0.mk (blk_below (g := gb159) (o := .cells #[.string a0_0, .string a0_1, .int .i64 a0_2] 23 (0, 0)) (by (with_reducible repeat (first | refine blk_drewN ?_ _ | refine blk_drew ?_ | refine blk_alloc ?_ _)); exact BK159.out) hb)
                  have n1_ := Aside0.mk (blk_below (g := gb160) (o := .cells #[.int .i64 a1_0, .int .i64 a1_1, .string a1_2] 32 (0, 0)) (by (with_reducible repeat (first | refine blk_drewN ?_ _ | refine blk_drew ?_ | refine blk_alloc ?_ _)); exact BK160.out) hb)
                  have n2_ := Aside0.mk (blk_below (g := gb161) (o := .cells #[.string (⟨#[]⟩ : ByteArray), .string (⟨#[]⟩ : ByteArray), .int .i64 0] 23 (0, 0)) (by (with_reducible repeat (first | refine blk_drewN ?_ _ | refine blk_drew ?_ | refine blk_alloc ?_ _)); exact BK161.out) hb)
                  have n3_ := Aside0.mk (blk_below (g := gb163) (o := .cells #[.string t185, .string t186, .int .i64 t187] 23 (0, 0)) (by (with_reducible repeat (first | refine blk_drewN ?_ _ | refine blk_drew ?_ | refine blk_alloc ?_ _)); exact BK163.out) hb)
                  have n4_ := Aside0.mk (blk_below (g := gb164) (o := .cells #[.string (⟨#[]⟩ : ByteArray), .string (⟨#[]⟩ : ByteArray), .int .i64 0] 23 (0, 0)) (by (with_reducible repeat (first | refine blk_drewN ?_ _ | refine blk_drew ?_ | refine blk_alloc ?_ _)); exact BK164.out) hb)
                  have n5_ := Aside0.mk (below_step (by repeat (first | (with_reducible first | exact HB.out | apply below_alloc | apply pw_below_drewN | apply below_drew1 | refine below_set ?_ GE159.out | refine below_set ?_ GE160.out | refine below_set ?_ GE161.out | refine below_set ?_ GE163.out | refine below_set ?_ GE164.out) | exact HB.out)) hb)
                  clear BK159
                  clear BK160
                  clear BK161
                  clear BK163
                  clear BK164
                  clear HB
                  have BK159 := n0_
                  have BK160 := n1_
                  have BK161 := n2_
                  have BK163 := n3_
                  have BK164 := n4_
                  have HB := n5_
                  clear n0_ n1_ n2_ n3_ n4_ n5_
                  (try clear hb)
                  (try clear hb2)
                  (try clear hk)
                  (try clear hi)
                  refine hK.out _ _ ⟨(blk_cell BK160.out 0).trans rfl, (blk_cell BK160.out 1).trans rfl, (blk_cell BK160.out 2).trans rfl, (blk_cell BK159.out 0).trans rfl, (blk_cell BK159.out 1).trans rfl, (blk_cell BK159.out 2).trans rfl⟩ (fun hHeld => ?_)
                  clear hK K
                  refine norm_ (a' := ?_) ?_ ?_
                  rotate_left
                  · show Act.put _ (some 32) _ = _
                    simp only [Act.put, List.setIfInBounds_toArray, List.set_cons_zero, List.set_cons_succ, i64_w, i32_w]
                    rfl
                  refine pure_ (i := 5) (N := some 33) (v := ?_) (a' := ?_) #[true, true, true, true, true, true] rfl rfl (by kernel_rfl) (fun _ _ _ h => h) (Or.inl ⟨by rfl, ?_⟩) ?_ ?_
                  rotate_left
                  · intro w'
                    go_simp
                    with_reducible rfl
                  rotate_left
                  · simp only [Act.put, List.setIfInBounds_toArray, List.set_cons_zero, List.set_cons_succ, i64_w, i32_w]
                    rfl
                  refine done_ (by kernel_rfl) ?_
                  try go_wp2
                  go_meet
                  case rel => exact ⟨_, (7), (t188), (t185), (t186), (t187), ((⟨#[]⟩ : ByteArray)), ((⟨#[]⟩ : ByteArray)), (0), (by first | rfl | (simp; done) | (simp [*]; done)), (by first | rfl | (simp; done) | (simp [*]; done)), H', ⟨by have := HJ18.out; first | omega | exact Nat.le_refl _⟩, ⟨by (with_reducible repeat (first | refine blk_drewN ?_ _ | refine blk_drew ?_ | refine blk_alloc ?_ _)); exact BK159.out⟩, ⟨by (with_reducible repeat (first | refine blk_drewN ?_ _ | refine blk_drew ?_ | refine blk_alloc ?_ _)); exact BK160.out⟩, ⟨by (with_reducible repeat (first | refine blk_drewN ?_ _ | refine blk_drew ?_ | refine blk_alloc ?_ _)); exact BK161.out⟩, ⟨by (with_reducible repeat (first | refine blk_drewN ?_ _ | refine blk_drew ?_ | refine blk_alloc ?_ _)); exact BK163.out⟩, ⟨by (with_reducible repeat (first | refine blk_drewN ?_ _ | refine blk_drew ?_ | refine blk_alloc ?_ _)); exact BK164.out⟩, ⟨by repeat (first | (with_reducible first | exact HB.out | apply below_alloc | apply pw_below_drewN | apply below_drew1 | refine below_set ?_ GE159.out | refine below_set ?_ GE160.out | refine below_set ?_ GE161.out | refine below_set ?_ GE163.out | refine below_set ?_ GE164.out) | exact HB.out)⟩⟩
              · replace c131 := Bool.eq_false_iff.mpr c131
                subst c131
                have H1 : (amanuensislaw12_step.j2 kj18 false 1 t188 a0_0 a0_1 a0_2 t185 t186 t187 (⟨#[]⟩ : ByteArray) (⟨#[]⟩ : ByteArray) 0) = some (r1, r2, r3, r4) := by rw [if_neg (show ¬ (false = true) by decide)] at H; exact H
                clear H
                have H := H1
                clear H1
                have H' := Aside0.mk H
                clear H
                have hnb171 := NB159_160.out
                have hnc171 := NB160_159.out
                have hnb172 := NB159_161.out
                have hnc172 := NB161_159.out
                have hnb173 := NB159_163.out
                have hnc173 := NB163_159.out
                have hnb174 := NB159_164.out
                have hnc174 := NB164_159.out
                have hcz175_0 : wc.cell? ⟨gb159, 0, none⟩ = some (.string a0_0) := (blk_cell BK159.out 0).trans rfl
                have hcz175_1 : wc.cell? ⟨gb159, 1, none⟩ = some (.string a0_1) := (blk_cell BK159.out 1).trans rfl
                have hcz175_2 : wc.cell? ⟨gb159, 2, none⟩ = some (.int .i64 a0_2) := (blk_cell BK159.out 2).trans rfl
                have hfz175_0 := blk_frozen BK159.out 0
                have hfz175_1 := blk_frozen BK159.out 1
                have hfz175_2 := blk_frozen BK159.out 2
                have hnb176 := NB160_161.out
                have hnc176 := NB161_160.out
                have hnb177 := NB160_163.out
                have hnc177 := NB163_160.out
                have hnb178 := NB160_164.out
                have hnc178 := NB164_160.out
                have hcz179_0 : wc.cell? ⟨gb160, 0, none⟩ = some (.int .i64 a1_0) := (blk_cell BK160.out 0).trans rfl
                have hcz179_1 : wc.cell? ⟨gb160, 1, none⟩ = some (.int .i64 a1_1) := (blk_cell BK160.out 1).trans rfl
                have hcz179_2 : wc.cell? ⟨gb160, 2, none⟩ = some (.string a1_2) := (blk_cell BK160.out 2).trans rfl
                have hfz179_0 := blk_frozen BK160.out 0
                have hfz179_1 := blk_frozen BK160.out 1
                have hfz179_2 := blk_frozen BK160.out 2
                go_wp2_with (first | ((with_reducible refine gate_callee (f := 13) rfl ?_); refine goesL_ (some 24) rfl rfl Try.func13 (by kernel_rfl) rfl #[.agg #[.string a0_0, .string a0_1, .int .i64 a0_2], .string a1_2] rfl (by (try simp only [List.map_toArray, List.map_cons, List.map_nil]); first | done | rfl | (simp only [List.length_drop, List.length_take]; rfl)) ?_; (with_reducible refine (file_Append.calls a0_0 a0_1 a0_2 a1_2 t185 t186 t187 t188 _ A130.out).mono ?_); rintro e w180 ⟨rfl, hb⟩; refine ⟨_, rfl, ?_⟩; have n0_ := Aside0.mk (blk_below (g := gb159) (o := .cells #[.string a0_0, .string a0_1, .int .i64 a0_2] 23 (0, 0)) (by (with_reducible repeat (first | refine blk_drewN ?_ _ | refine blk_drew ?_ | refine blk_alloc ?_ _)); exact BK159.out) hb); have n1_ := Aside0.mk (blk_below (g := gb160) (o := .cells #[.int .i64 a1_0, .int .i64 a1_1, .string a1_2] 32 (0, 0)) (by (with_reducible repeat (first | refine blk_drewN ?_ _ | refine blk_drew ?_ | refine blk_alloc ?_ _)); exact BK160.out) hb); have n2_ := Aside0.mk (blk_below (g := gb161) (o := .cells #[.string (⟨#[]⟩ : ByteArray), .string (⟨#[]⟩ : ByteArray), .int .i64 0] 23 (0, 0)) (by (with_reducible repeat (first | refine blk_drewN ?_ _ | refine blk_drew ?_ | refine blk_alloc ?_ _)); exact BK161.out) hb); have n3_ := Aside0.mk (blk_below (g := gb163) (o := .cells #[.string (⟨#[]⟩ : ByteArray), .string (⟨#[]⟩ : ByteArray), .int .i64 0] 23 (0, 0)) (by (with_reducible repeat (first | refine blk_drewN ?_ _ | refine blk_drew ?_ | refine blk_alloc ?_ _)); exact BK163.out) hb); have n4_ := Aside0.mk (blk_below (g := gb164) (o := .cells #[.string (⟨#[]⟩ : ByteArray), .string (⟨#[]⟩ : ByteArray), .int .i64 0] 23 (0, 0)) (by (with_reducible repeat (first | refine blk_drewN ?_ _ | refine blk_drew ?_ | refine blk_alloc ?_ _)); exact BK164.out) hb); have n5_ := Aside0.mk (below_step (by repeat (first | (with_reducible first | exact HB.out | apply below_alloc | apply pw_below_drewN | apply below_drew1 | refine below_set ?_ GE159.out | refine below_set ?_ GE160.out | refine below_set ?_ GE161.out | refine below_set ?_ GE163.out | refine below_set ?_ GE164.out) | exact HB.out)) hb); clear BK159; clear BK160; clear BK161; clear BK163; clear BK164; clear HB; have BK159 := n0_; have BK160 := n1_; have BK161 := n2_; have BK163 := n3_; have BK164 := n4_; have HB := n5_; clear n0_ n1_ n2_ n3_ n4_ n5_; (try clear hb); (try clear hb2); (try clear hk); (try clear hi); have hnb181 := NB163_161.out; have hnc181 := NB161_163.out; have hnb182 := NB163_164.out; have hnc182 := NB164_163.out; have hcz183_0 : w180.cell? ⟨gb163, 0, none⟩ = some (.string (⟨#[]⟩ : ByteArray)) := (blk_cell BK163.out 0).trans rfl; have hcz183_1 : w180.cell? ⟨gb163, 1, none⟩ = some (.string (⟨#[]⟩ : ByteArray)) := (blk_cell BK163.out 1).trans rfl; have hcz183_2 : w180.cell? ⟨gb163, 2, none⟩ = some (.int .i64 0) := (blk_cell BK163.out 2).trans rfl; have hfz183_0 := blk_frozen BK163.out 0; have hfz183_1 := blk_frozen BK163.out 1; have hfz183_2 := blk_frozen BK163.out 2))
                go_meet
                case rel => exact ⟨_, (1), (t188), (t185), (t186), (t187), ((⟨#[]⟩ : ByteArray)), ((⟨#[]⟩ : ByteArray)), (0), (by first | rfl | (simp; done) | (simp [*]; done)), (by first | rfl | (simp; done) | (simp [*]; done)), H', ⟨by have := HJ18.out; first | omega | exact Nat.le_refl _⟩, ⟨by (with_reducible repeat (first | refine blk_drewN ?_ _ | refine blk_drew ?_ | refine blk_alloc ?_ _)); refine blk_far ?_ NB159_163.out _; (with_reducible repeat (first | refine blk_drewN ?_ _ | refine blk_drew ?_ | refine blk_alloc ?_ _)); refine blk_far ?_ NB159_163.out _; (with_reducible repeat (first | refine blk_drewN ?_ _ | refine blk_drew ?_ | refine blk_alloc ?_ _)); refine blk_far ?_ NB159_163.out _; (with_reducible repeat (first | refine blk_drewN ?_ _ | refine blk_drew ?_ | refine blk_alloc ?_ _)); exact BK159.out⟩, ⟨by (with_reducible repeat (first | refine blk_drewN ?_ _ | refine blk_drew ?_ | refine blk_alloc ?_ _)); refine blk_far ?_ NB160_163.out _; (with_reducible repeat (first | refine blk_drewN ?_ _ | refine blk_drew ?_ | refine blk_alloc ?_ _)); refine blk_far ?_ NB160_163.out _; (with_reducible repeat (first | refine blk_drewN ?_ _ | refine blk_drew ?_ | refine blk_alloc ?_ _)); refine blk_far ?_ NB160_163.out _; (with_reducible repeat (first | refine blk_drewN ?_ _ | refine blk_drew ?_ | refine blk_alloc ?_ _)); exact BK160.out⟩, ⟨by (with_reducible repeat (first | refine blk_drewN ?_ _ | refine blk_drew ?_ | refine blk_alloc ?_ _)); refine blk_far ?_ NB161_163.out _; (with_reducible repeat (first | refine blk_drewN ?_ _ | refine blk_drew ?_ | refine blk_alloc ?_ _)); refine blk_far ?_ NB161_163.out _; (with_reducible repeat (first | refine blk_drewN ?_ _ | refine blk_drew ?_ | refine blk_alloc ?_ _)); refine blk_far ?_ NB161_163.out _; (with_reducible repeat (first | refine blk_drewN ?_ _ | refine blk_drew ?_ | refine blk_alloc ?_ _)); exact BK161.out⟩, ⟨by (with_reducible repeat (first | refine blk_drewN ?_ _ | refine blk_drew ?_ | refine blk_alloc ?_ _)); refine blk_put (cs := #[.string t185, .string t186, .int .i64 0]) ?_ 2 _ rfl; (with_reducible repeat (first | refine blk_drewN ?_ _ | refine blk_drew ?_ | refine blk_alloc ?_ _)); refine blk_put (cs := #[.string t185, .string (⟨#[]⟩ : ByteArray), .int .i64 0]) ?_ 1 _ rfl; (with_reducible repeat (first | refine blk_drewN ?_ _ | refine blk_drew ?_ | refine blk_alloc ?_ _)); refine blk_put (cs := #[.string (⟨#[]⟩ : ByteArray), .string (⟨#[]⟩ : ByteArray), .int .i64 0]) ?_ 0 _ rfl; (with_reducible repeat (first | refine blk_drewN ?_ _ | refine blk_drew ?_ | refine blk_alloc ?_ _)); exact BK163.out⟩, ⟨by (with_reducible repeat (first | refine blk_drewN ?_ _ | refine blk_drew ?_ | refine blk_alloc ?_ _)); refine blk_far ?_ NB164_163.out _; (with_reducible repeat (first | refine blk_drewN ?_ _ | refine blk_drew ?_ | refine blk_alloc ?_ _)); refine blk_far ?_ NB164_163.out _; (with_reducible repeat (first | refine blk_drewN ?_ _ | refine blk_drew ?_ | refine blk_alloc ?_ _)); refine blk_far ?_ NB164_163.out _; (with_reducible repeat (first | refine blk_drewN ?_ _ | refine blk_drew ?_ | refine blk_alloc ?_ _)); exact BK164.out⟩, ⟨by repeat (first | (with_reducible first | exact HB.out | apply below_alloc | apply pw_below_drewN | apply below_drew1 | refine below_set ?_ GE159.out | refine below_set ?_ GE160.out | refine below_set ?_ GE161.out | refine below_set ?_ GE163.out | refine below_set ?_ GE164.out) | exact HB.out)⟩⟩
  case rest =>
    clear HC5
    try clear c1
    try clear p2
    try clear c4
    try clear c8
    try clear c11
    try clear c12
    try clear c13
    try clear c14
    try clear c15
    try clear c16
    try clear c17
    try clear c18
    try clear c43
    try clear c85
    try clear c85b0
    try clear c85b1
    try clear c112
    try clear c113
    try clear c113b0
    try clear c113b1
    try clear c114
    try clear c115
    try clear c125
    try clear c126
    try clear c127
    try clear c128
    try clear c131
    try clear c133
    try clear c133b0
    try clear c134
    try clear c134b0
    try clear c134b1
    try clear c134b2
    try clear c135
    try clear c136
    try clear c137
    try clear c138
    try clear c140
    try clear c141
    try clear c142
    try clear c145
    try clear c146
    try clear c155
    try clear c156
    try clear c157
    try clear c158
    try clear c160
    try clear c161
    try clear c162
    try clear c165
    try clear c166
    try clear c171
    try clear c172
    try clear c173
    try clear c174
    try clear c176
    try clear c177
    try clear c178
    try clear c181
    try clear c182
    try clear hcz129_0
    try clear hcz129_1
    try clear hcz129_2
    try clear hcz139_0
    try clear hcz139_1
    try clear hcz139_2
    try clear hcz143_0
    try clear hcz143_1
    try clear hcz143_2
    try clear hcz147_0
    try clear hcz147_1
    try clear hcz147_2
    try clear hcz159_0
    try clear hcz159_1
    try clear hcz159_2
    try clear hcz163_0
    try clear hcz163_1
    try clear hcz163_2
    try clear hcz167_0
    try clear hcz167_1
    try clear hcz167_2
    try clear hcz175_0
    try clear hcz175_1
    try clear hcz175_2
    try clear hcz179_0
    try clear hcz179_1
    try clear hcz179_2
    try clear hcz183_0
    try clear hcz183_1
    try clear hcz183_2
    try clear hfz129_0
    try clear hfz129_1
    try clear hfz129_2
    try clear hfz139_0
    try clear hfz139_1
    try clear hfz139_2
    try clear hfz143_0
    try clear hfz143_1
    try clear hfz143_2
    try clear hfz147_0
    try clear hfz147_1
    try clear hfz147_2
    try clear hfz159_0
    try clear hfz159_1
    try clear hfz159_2
    try clear hfz163_0
    try clear hfz163_1
    try clear hfz163_2
    try clear hfz167_0
    try clear hfz167_1
    try clear hfz167_2
    try clear hfz175_0
    try clear hfz175_1
    try clear hfz175_2
    try clear hfz179_0
    try clear hfz179_1
    try clear hfz179_2
    try clear hfz183_0
    try clear hfz183_1
    try clear hfz183_2
    obtain ⟨kq, x7_4, x10_4, x164000_4, x164001_4, x164002_4, x165000_4, x165001_4, x165002_4, rfl, rfl, HA, HJ4, BK159, BK160, BK161, BK163, BK164, HB⟩ := hcut
    cases kq with
    | zero => exact absurd HA.out (by simp [amanuensislaw12_step.j2])
    | succ kj4 =>
      have H := HA.out
      clear HA
      simp only [amanuensislaw12_step.j2] at H
      replace H := Option.bind_eq_some_iff.mp H
      obtain ⟨⟨t190, t191⟩, A1840, H⟩ := H
      replace H : (if t162 = true then ((amanuensisref9_Free.f a0_0 a0_1 a0_2).bind fun t192 => (amanuensislaw12_step.j3 kj4 t162 x7_4 x10_4 t190 t191 0 t192 a0_0 a0_1 a0_2 x164000_4 x164001_4 x164002_4 x165000_4 x165001_4 x165002_4)) else (amanuensislaw12_step.j3 kj4 t162 x7_4 x10_4 t190 t191 1 0 a0_0 a0_1 a0_2 x164000_4 x164001_4 x164002_4 x165000_4 x165001_4 x165002_4)) = some (r1, r2, r3, r4) := H
      have A184 := Aside0.mk A1840
      clear A1840
      have HC185 := Aside0.mk H
      clear H
      have hnb186 := NB159_160.out
      have hnc186 := NB160_159.out
      have hnb187 := NB159_161.out
      have hnc187 := NB161_159.out
      have hnb188 := NB159_163.out
      have hnc188 := NB163_159.out
      have hnb189 := NB159_164.out
      have hnc189 := NB164_159.out
      have hcz190_0 : wc.cell? ⟨gb159, 0, none⟩ = some (.string a0_0) := (blk_cell BK159.out 0).trans rfl
      have hcz190_1 : wc.cell? ⟨gb159, 1, none⟩ = some (.string a0_1) := (blk_cell BK159.out 1).trans rfl
      have hcz190_2 : wc.cell? ⟨gb159, 2, none⟩ = some (.int .i64 a0_2) := (blk_cell BK159.out 2).trans rfl
      have hfz190_0 := blk_frozen BK159.out 0
      have hfz190_1 := blk_frozen BK159.out 1
      have hfz190_2 := blk_frozen BK159.out 2
      go_upto_if 103 with (first | ((with_reducible refine gate_callee (f := 44) rfl ?_); refine goesL_ (some 100) rfl rfl Try.func44 (by kernel_rfl) rfl #[.agg #[.string a0_0, .string a0_1, .int .i64 a0_2]] rfl (by (try simp only [List.map_toArray, List.map_cons, List.map_nil]); first | done | rfl | (simp only [List.length_drop, List.length_take]; rfl)) ?_; (with_reducible refine (file_Free.calls a0_0 a0_1 a0_2 t190 t191 _ A184.out).mono ?_); rintro e w191 ⟨rfl, hb⟩; refine ⟨_, rfl, ?_⟩; have n0_ := Aside0.mk (blk_below (g := gb159) (o := .cells #[.string a0_0, .string a0_1, .int .i64 a0_2] 23 (0, 0)) (by (with_reducible repeat (first | refine blk_drewN ?_ _ | refine blk_drew ?_ | refine blk_alloc ?_ _)); exact BK159.out) hb); have n1_ := Aside0.mk (blk_below (g := gb160) (o := .cells #[.int .i64 a1_0, .int .i64 a1_1, .string a1_2] 32 (0, 0)) (by (with_reducible repeat (first | refine blk_drewN ?_ _ | refine blk_drew ?_ | refine blk_alloc ?_ _)); exact BK160.out) hb); have n2_ := Aside0.mk (blk_below (g := gb161) (o := .cells #[.string (⟨#[]⟩ : ByteArray), .string (⟨#[]⟩ : ByteArray), .int .i64 0] 23 (0, 0)) (by (with_reducible repeat (first | refine blk_drewN ?_ _ | refine blk_drew ?_ | refine blk_alloc ?_ _)); exact BK161.out) hb); have n3_ := Aside0.mk (blk_below (g := gb163) (o := .cells #[.string x164000_4, .string x164001_4, .int .i64 x164002_4] 23 (0, 0)) (by (with_reducible repeat (first | refine blk_drewN ?_ _ | refine blk_drew ?_ | refine blk_alloc ?_ _)); exact BK163.out) hb); have n4_ := Aside0.mk (blk_below (g := gb164) (o := .cells #[.string x165000_4, .string x165001_4, .int .i64 x165002_4] 23 (0, 0)) (by (with_reducible repeat (first | refine blk_drewN ?_ _ | refine blk_drew ?_ | refine blk_alloc ?_ _)); exact BK164.out) hb); have n5_ := Aside0.mk (below_step (by repeat (first | (with_reducible first | exact HB.out | apply below_alloc | apply pw_below_drewN | apply below_drew1 | refine below_set ?_ GE159.out | refine below_set ?_ GE160.out | refine below_set ?_ GE161.out | refine below_set ?_ GE163.out | refine below_set ?_ GE164.out) | exact HB.out)) hb); clear BK159; clear BK160; clear BK161; clear BK163; clear BK164; clear HB; have BK159 := n0_; have BK160 := n1_; have BK161 := n2_; have BK163 := n3_; have BK164 := n4_; have HB := n5_; clear n0_ n1_ n2_ n3_ n4_ n5_; (try clear hb); (try clear hb2); (try clear hk); (try clear hi)))
      (try simp only [Act.put, List.setIfInBounds_toArray, List.set_cons_zero, List.set_cons_succ])
      go_cut [13, 14] (fun v13 v14 wc => ∃ (kq : Nat) (x13_184 : Int) (x14_184 : Int), v13 = .int .i64 x13_184 ∧ v14 = .int .i64 x14_184 ∧ Aside0 (amanuensislaw12_step.j3 kq t162 x7_4 x10_4 t190 t191 x13_184 x14_184 a0_0 a0_1 a0_2 x164000_4 x164001_4 x164002_4 x165000_4 x165001_4 x165002_4 = some (r1, r2, r3, r4)) ∧ Aside0 (kq ≤ kj4) ∧ Aside0 (wc.heap[gb159]? = some (.cells #[.string a0_0, .string a0_1, .int .i64 a0_2] 23 (0, 0))) ∧ Aside0 (wc.heap[gb160]? = some (.cells #[.int .i64 a1_0, .int .i64 a1_1, .string a1_2] 32 (0, 0))) ∧ Aside0 (wc.heap[gb161]? = some (.cells #[.string (⟨#[]⟩ : ByteArray), .string (⟨#[]⟩ : ByteArray), .int .i64 0] 23 (0, 0))) ∧ Aside0 (wc.heap[gb163]? = some (.cells #[.string x164000_4, .string x164001_4, .int .i64 x164002_4] 23 (0, 0))) ∧ Aside0 (wc.heap[gb164]? = some (.cells #[.string x165000_4, .string x165001_4, .int .i64 x165002_4] 23 (0, 0))) ∧ Aside0 (Below w.heap.size w wc))
      case first =>
        have H := HC185.out
        clear HC185
        by_cases c192 : t162 = true
        · subst c192
          have H1 : ((amanuensisref9_Free.f a0_0 a0_1 a0_2).bind fun t192 => (amanuensislaw12_step.j3 kj4 true x7_4 x10_4 t190 t191 0 t192 a0_0 a0_1 a0_2 x164000_4 x164001_4 x164002_4 x165000_4 x165001_4 x165002_4)) = some (r1, r2, r3, r4) := by rw [if_pos rfl] at H; exact H
          clear H
          have H := H1
          clear H1
          replace H := Option.bind_eq_some_iff.mp H
          obtain ⟨t192, A1930, H⟩ := H
          replace H : (amanuensislaw12_step.j3 kj4 true x7_4 x10_4 t190 t191 0 t192 a0_0 a0_1 a0_2 x164000_4 x164001_4 x164002_4 x165000_4 x165001_4 x165002_4) = some (r1, r2, r3, r4) := H
          have A193 := Aside0.mk A1930
          clear A1930
          have H' := Aside0.mk H
          clear H
          have hnb194 := NB159_160.out
          have hnc194 := NB160_159.out
          have hnb195 := NB159_161.out
          have hnc195 := NB161_159.out
          have hnb196 := NB159_163.out
          have hnc196 := NB163_159.out
          have hnb197 := NB159_164.out
          have hnc197 := NB164_159.out
          have hcz198_0 : w191.cell? ⟨gb159, 0, none⟩ = some (.string a0_0) := (blk_cell BK159.out 0).trans rfl
          have hcz198_1 : w191.cell? ⟨gb159, 1, none⟩ = some (.string a0_1) := (blk_cell BK159.out 1).trans rfl
          have hcz198_2 : w191.cell? ⟨gb159, 2, none⟩ = some (.int .i64 a0_2) := (blk_cell BK159.out 2).trans rfl
          have hfz198_0 := blk_frozen BK159.out 0
          have hfz198_1 := blk_frozen BK159.out 1
          have hfz198_2 := blk_frozen BK159.out 2
          go_wp2_with (first | ((with_reducible refine gate_callee (f := 43) rfl ?_); refine goesL_ (some 105) rfl rfl Try.func43 (by kernel_rfl) rfl #[.agg #[.string a0_0, .string a0_1, .int .i64 a0_2]] rfl (by (try simp only [List.map_toArray, List.map_cons, List.map_nil]); first | done | rfl | (simp only [List.length_drop, List.length_take]; rfl)) ?_; (with_reducible refine (amanuensisref9_Free.calls a0_0 a0_1 a0_2 t192 _ A193.out).mono ?_); rintro e w199 ⟨rfl, hb⟩; refine ⟨_, rfl, ?_⟩; have n0_ := Aside0.mk (blk_below (g := gb159) (o := .cells #[.string a0_0, .string a0_1, .int .i64 a0_2] 23 (0, 0)) (by (with_reducible repeat (first | refine blk_drewN ?_ _ | refine blk_drew ?_ | refine blk_alloc ?_ _)); exact BK159.out) hb); have n1_ := Aside0.mk (blk_below (g := gb160) (o := .cells #[.int .i64 a1_0, .int .i64 a1_1, .string a1_2] 32 (0, 0)) (by (with_reducible repeat (first | refine blk_drewN ?_ _ | refine blk_drew ?_ | refine blk_alloc ?_ _)); exact BK160.out) hb); have n2_ := Aside0.mk (blk_below (g := gb161) (o := .cells #[.string (⟨#[]⟩ : ByteArray), .string (⟨#[]⟩ : ByteArray), .int .i64 0] 23 (0, 0)) (by (with_reducible repeat (first | refine blk_drewN ?_ _ | refine blk_drew ?_ | refine blk_alloc ?_ _)); exact BK161.out) hb); have n3_ := Aside0.mk (blk_below (g := gb163) (o := .cells #[.string x164000_4, .string x164001_4, .int .i64 x164002_4] 23 (0, 0)) (by (with_reducible repeat (first | refine blk_drewN ?_ _ | refine blk_drew ?_ | refine blk_alloc ?_ _)); exact BK163.out) hb); have n4_ := Aside0.mk (blk_below (g := gb164) (o := .cells #[.string x165000_4, .string x165001_4, .int .i64 x165002_4] 23 (0, 0)) (by (with_reducible repeat (first | refine blk_drewN ?_ _ | refine blk_drew ?_ | refine blk_alloc ?_ _)); exact BK164.out) hb); have n5_ := Aside0.mk (below_step (by repeat (first | (with_reducible first | exact HB.out | apply below_alloc | apply pw_below_drewN | apply below_drew1 | refine below_set ?_ GE159.out | refine below_set ?_ GE160.out | refine below_set ?_ GE161.out | refine below_set ?_ GE163.out | refine below_set ?_ GE164.out) | exact HB.out)) hb); clear BK159; clear BK160; clear BK161; clear BK163; clear BK164; clear HB; have BK159 := n0_; have BK160 := n1_; have BK161 := n2_; have BK163 := n3_; have BK164 := n4_; have HB := n5_; clear n0_ n1_ n2_ n3_ n4_ n5_; (try clear hb); (try clear hb2); (try clear hk); (try clear hi)))
          go_meet
          case rel => exact ⟨_, (0), (t192), (by first | rfl | (simp; done) | (simp [*]; done)), (by first | rfl | (simp; done) | (simp [*]; done)), H', ⟨by have := HJ4.out; first | omega | exact Nat.le_refl _⟩, ⟨by (with_reducible repeat (first | refine blk_drewN ?_ _ | refine blk_drew ?_ | refine blk_alloc ?_ _)); exact BK159.out⟩, ⟨by (with_reducible repeat (first | refine blk_drewN ?_ _ | refine blk_drew ?_ | refine blk_alloc ?_ _)); exact BK160.out⟩, ⟨by (with_reducible repeat (first | refine blk_drewN ?_ _ | refine blk_drew ?_ | refine blk_alloc ?_ _)); exact BK161.out⟩, ⟨by (with_reducible repeat (first | refine blk_drewN ?_ _ | refine blk_drew ?_ | refine blk_alloc ?_ _)); exact BK163.out⟩, ⟨by (with_reducible repeat (first | refine blk_drewN ?_ _ | refine blk_drew ?_ | refine blk_alloc ?_ _)); exact BK164.out⟩, ⟨by repeat (first | (with_reducible first | exact HB.out | apply below_alloc | apply pw_below_drewN | apply below_drew1 | refine below_set ?_ GE159.out | refine below_set ?_ GE160.out | refine below_set ?_ GE161.out | refine below_set ?_ GE163.out | refine below_set ?_ GE164.out) | exact HB.out)⟩⟩
        · replace c192 := Bool.eq_false_iff.mpr c192
          subst c192
          have H1 : (amanuensislaw12_step.j3 kj4 false x7_4 x10_4 t190 t191 1 0 a0_0 a0_1 a0_2 x164000_4 x164001_4 x164002_4 x165000_4 x165001_4 x165002_4) = some (r1, r2, r3, r4) := by rw [if_neg (show ¬ (false = true) by decide)] at H; exact H
          clear H
          have H := H1
          clear H1
          have H' := Aside0.mk H
          clear H
          go_wp2
          go_meet
          case rel => exact ⟨_, (1), (0), (by first | rfl | (simp; done) | (simp [*]; done)), (by first | rfl | (simp; done) | (simp [*]; done)), H', ⟨by have := HJ4.out; first | omega | exact Nat.le_refl _⟩, ⟨by (with_reducible repeat (first | refine blk_drewN ?_ _ | refine blk_drew ?_ | refine blk_alloc ?_ _)); exact BK159.out⟩, ⟨by (with_reducible repeat (first | refine blk_drewN ?_ _ | refine blk_drew ?_ | refine blk_alloc ?_ _)); exact BK160.out⟩, ⟨by (with_reducible repeat (first | refine blk_drewN ?_ _ | refine blk_drew ?_ | refine blk_alloc ?_ _)); exact BK161.out⟩, ⟨by (with_reducible repeat (first | refine blk_drewN ?_ _ | refine blk_drew ?_ | refine blk_alloc ?_ _)); exact BK163.out⟩, ⟨by (with_reducible repeat (first | refine blk_drewN ?_ _ | refine blk_drew ?_ | refine blk_alloc ?_ _)); exact BK164.out⟩, ⟨by repeat (first | (with_reducible first | exact HB.out | apply below_alloc | apply pw_below_drewN | apply below_drew1 | refine below_set ?_ GE159.out | refine below_set ?_ GE160.out | refine below_set ?_ GE161.out | refine below_set ?_ GE163.out | refine below_set ?_ GE164.out) | exact HB.out)⟩⟩
      case rest =>
        clear HC185
        try clear c1
        try clear p2
        try clear c4
        try clear c8
        try clear c11
        try clear c12
        try clear c13
        try clear c14
        try clear c15
        try clear c16
        try clear c17
        try clear c18
        try clear c19
        try clear c43
        try clear c44
        try clear c85
        try clear c85b0
        try clear c85b1
        try clear c112
        try clear c113
        try clear c113b0
        try clear c113b1
        try clear c114
        try clear c115
        try clear c125
        try clear c126
        try clear c127
        try clear c128
        try clear c131
        try clear c133
        try clear c133b0
        try clear c134
        try clear c134b0
        try clear c134b1
        try clear c134b2
        try clear c135
        try clear c136
        try clear c137
        try clear c138
        try clear c140
        try clear c141
        try clear c142
        try clear c145
        try clear c146
        try clear c155
        try clear c156
        try clear c157
        try clear c158
        try clear c160
        try clear c161
        try clear c162
        try clear c165
        try clear c166
        try clear c171
        try clear c172
        try clear c173
        try clear c174
        try clear c176
        try clear c177
        try clear c178
        try clear c181
        try clear c182
        try clear c186
        try clear c187
        try clear c188
        try clear c189
        try clear c192
        try clear c194
        try clear c195
        try clear c196
        try clear c197
        try clear hcz129_0
        try clear hcz129_1
        try clear hcz129_2
        try clear hcz139_0
        try clear hcz139_1
        try clear hcz139_2
        try clear hcz143_0
        try clear hcz143_1
        try clear hcz143_2
        try clear hcz147_0
        try clear hcz147_1
        try clear hcz147_2
        try clear hcz159_0
        try clear hcz159_1
        try clear hcz159_2
        try clear hcz163_0
        try clear hcz163_1
        try clear hcz163_2
        try clear hcz167_0
        try clear hcz167_1
        try clear hcz167_2
        try clear hcz175_0
        try clear hcz175_1
        try clear hcz175_2
        try clear hcz179_0
        try clear hcz179_1
        try clear hcz179_2
        try clear hcz183_0
        try clear hcz183_1
        try clear hcz183_2
        try clear hcz190_0
        try clear hcz190_1
        try clear hcz190_2
        try clear hcz198_0
        try clear hcz198_1
        try clear hcz198_2
        try clear hfz129_0
        try clear hfz129_1
        try clear hfz129_2
        try clear hfz139_0
        try clear hfz139_1
        try clear hfz139_2
        try clear hfz143_0
        try clear hfz143_1
        try clear hfz143_2
        try clear hfz147_0
        try clear hfz147_1
        try clear hfz147_2
        try clear hfz159_0
        try clear hfz159_1
        try clear hfz159_2
        try clear hfz163_0
        try clear hfz163_1
        try clear hfz163_2
        try clear hfz167_0
        try clear hfz167_1
        try clear hfz167_2
        try clear hfz175_0
        try clear hfz175_1
        try clear hfz175_2
        try clear hfz179_0
        try clear hfz179_1
        try clear hfz179_2
        try clear hfz183_0
        try clear hfz183_1
        try clear hfz183_2
        try clear hfz190_0
        try clear hfz190_1
        try clear hfz190_2
        try clear hfz198_0
        try clear hfz198_1
        try clear hfz198_2
        try clear p2
        obtain ⟨kq, x13_184, x14_184, rfl, rfl, HA, HJ184, BK159, BK160, BK161, BK163, BK164, HB⟩ := hcut
        cases kq with
        | zero => exact absurd HA.out (by simp [amanuensislaw12_step.j3])
        | succ kj184 =>
          have H := HA.out
          clear HA
          simp only [amanuensislaw12_step.j3] at H
          have HC200 := Aside0.mk H
          clear H
          go_upto_region 30 with (fail)
          go_cut [133] (fun v133 wc => ∃ (kq : Nat) (x133_199 : Bool), v133 = .bool x133_199 ∧ Aside0 (amanuensislaw12_step.j4 kq x7_4 x133_199 a0_0 a0_1 a0_2 x165000_4 x165001_4 x165002_4 = some (r1, r2, r3, r4)) ∧ Aside0 (kq ≤ kj184) ∧ Aside0 (wc.heap[gb159]? = some (.cells #[.string a0_0, .string a0_1, .int .i64 a0_2] 23 (0, 0))) ∧ Aside0 (wc.heap[gb160]? = some (.cells #[.int .i64 a1_0, .int .i64 a1_1, .string a1_2] 32 (0, 0))) ∧ Aside0 (wc.heap[gb161]? = some (.cells #[.string (⟨#[]⟩ : ByteArray), .string (⟨#[]⟩ : ByteArray), .int .i64 0] 23 (0, 0))) ∧ Aside0 (wc.heap[gb163]? = some (.cells #[.string x164000_4, .string x164001_4, .int .i64 x164002_4] 23 (0, 0))) ∧ Aside0 (wc.heap[gb164]? = some (.cells #[.string x165000_4, .string x165001_4, .int .i64 x165002_4] 23 (0, 0))) ∧ Aside0 (Below w.heap.size w wc))
          case first =>
            have H := HC200.out
            clear HC200
            replace H := Option.bind_eq_some_iff.mp H
            obtain ⟨t193, A2010, H⟩ := H
            replace H : (if t193 = x7_4 then (if (!(x164000_4.toList == x165000_4.toList) || (!(x164001_4.toList == x165001_4.toList) || (!(x164002_4 == x165002_4)))) = true then (amanuensislaw12_step.j4 kj184 x7_4 true a0_0 a0_1 a0_2 x165000_4 x165001_4 x165002_4) else ((file_Check.f a0_0 a0_1 a0_2).bind fun t194 => ((amanuensislaw12_num.f t194).bind fun t195 => (if ((t195 == 0) != t162) = true then (amanuensislaw12_step.j4 kj184 x7_4 true a0_0 a0_1 a0_2 x165000_4 x165001_4 x165002_4) else ((amanuensislaw12_num.f t191).bind fun t196 => (if t196 = x13_184 then (amanuensislaw12_step.j4 kj184 x7_4 (t190 != x14_184) a0_0 a0_1 a0_2 x165000_4 x165001_4 x165002_4) else (amanuensislaw12_step.j4 kj184 x7_4 true a0_0 a0_1 a0_2 x165000_4 x165001_4 x165002_4))))))) else (amanuensislaw12_step.j4 kj184 x7_4 true a0_0 a0_1 a0_2 x165000_4 x165001_4 x165002_4)) = some (r1, r2, r3, r4) := H
            have A201 := Aside0.mk A2010
            clear A2010
            by_cases c202 : t193 = x7_4
            · rw [if_pos c202] at H
              have c202b0 : (t193 == x7_4) = true := beq_iff_eq.mpr c202
              have c202b1 : (t193 != x7_4) = false := bne_eq_false_iff_eq.mpr c202
              clear c202
              (first | rw [c202b0] | (simp only [i64_w, i32_w]; rw [c202b0]) | skip)
              by_cases c203 : (!(x164000_4.toList == x165000_4.toList) || (!(x164001_4.toList == x165001_4.toList) || (!(x164002_4 == x165002_4)))) = true
              · rw [if_pos c203] at H
                have c203b0 : (!(x164000_4.toList == x165000_4.toList) || (!(x164001_4.toList == x165001_4.toList) || (!(x164002_4 == x165002_4)))) = true := c203
                clear c203
                have H' := Aside0.mk H
                clear H
                go_wp2_with (first | ((with_reducible refine gate_callee (f := 14) rfl ?_); refine goesL_ (some 107) rfl rfl Try.func14 (by kernel_rfl) rfl #[.int .i64 x10_4] rfl (by (try simp only [List.map_toArray, List.map_cons, List.map_nil]); first | done | rfl | (simp only [List.length_drop, List.length_take]; rfl)) ?_; (with_reducible refine (amanuensislaw12_num.calls x10_4 t193 _ A201.out).mono ?_); rintro e w' ⟨rfl, ⟨nd, rfl⟩⟩; refine ⟨_, rfl, ?_⟩; have hnb204 := NB163_159.out; have hnc204 := NB159_163.out; have hnb205 := NB163_160.out; have hnc205 := NB160_163.out; have hnb206 := NB163_161.out; have hnc206 := NB161_163.out; have hnb207 := NB163_164.out; have hnc207 := NB164_163.out; have hcz208_0 : wc.cell? ⟨gb163, 0, none⟩ = some (.string x164000_4) := (blk_cell BK163.out 0).trans rfl; have hcz208_1 : wc.cell? ⟨gb163, 1, none⟩ = some (.string x164001_4) := (blk_cell BK163.out 1).trans rfl; have hcz208_2 : wc.cell? ⟨gb163, 2, none⟩ = some (.int .i64 x164002_4) := (blk_cell BK163.out 2).trans rfl; have hfz208_0 := blk_frozen BK163.out 0; have hfz208_1 := blk_frozen BK163.out 1; have hfz208_2 := blk_frozen BK163.out 2; have hnb209 := NB164_159.out; have hnc209 := NB159_164.out; have hnb210 := NB164_160.out; have hnc210 := NB160_164.out; have hnb211 := NB164_161.out; have hnc211 := NB161_164.out; have hcz212_0 : wc.cell? ⟨gb164, 0, none⟩ = some (.string x165000_4) := (blk_cell BK164.out 0).trans rfl; have hcz212_1 : wc.cell? ⟨gb164, 1, none⟩ = some (.string x165001_4) := (blk_cell BK164.out 1).trans rfl; have hcz212_2 : wc.cell? ⟨gb164, 2, none⟩ = some (.int .i64 x165002_4) := (blk_cell BK164.out 2).trans rfl; have hfz212_0 := blk_frozen BK164.out 0; have hfz212_1 := blk_frozen BK164.out 1; have hfz212_2 := blk_frozen BK164.out 2))
                go_meet
                case rel => exact ⟨_, (true), (by first | rfl | (simp; done) | (simp [*]; done)), H', ⟨by have := HJ4.out; have := HJ184.out; first | omega | exact Nat.le_refl _⟩, ⟨by (with_reducible repeat (first | refine blk_drewN ?_ _ | refine blk_drew ?_ | refine blk_alloc ?_ _)); exact BK159.out⟩, ⟨by (with_reducible repeat (first | refine blk_drewN ?_ _ | refine blk_drew ?_ | refine blk_alloc ?_ _)); exact BK160.out⟩, ⟨by (with_reducible repeat (first | refine blk_drewN ?_ _ | refine blk_drew ?_ | refine blk_alloc ?_ _)); exact BK161.out⟩, ⟨by (with_reducible repeat (first | refine blk_drewN ?_ _ | refine blk_drew ?_ | refine blk_alloc ?_ _)); exact BK163.out⟩, ⟨by (with_reducible repeat (first | refine blk_drewN ?_ _ | refine blk_drew ?_ | refine blk_alloc ?_ _)); exact BK164.out⟩, ⟨by repeat (first | (with_reducible first | exact HB.out | apply below_alloc | apply pw_below_drewN | apply below_drew1 | refine below_set ?_ GE159.out | refine below_set ?_ GE160.out | refine below_set ?_ GE161.out | refine below_set ?_ GE163.out | refine below_set ?_ GE164.out) | exact HB.out)⟩⟩
              · rw [if_neg c203] at H
                have c203b0 : (!(x164000_4.toList == x165000_4.toList) || (!(x164001_4.toList == x165001_4.toList) || (!(x164002_4 == x165002_4)))) = false := by simpa using c203
                clear c203
                replace H := Option.bind_eq_some_iff.mp H
                obtain ⟨t194, A2130, H⟩ := H
                replace H : ((amanuensislaw12_num.f t194).bind fun t195 => (if ((t195 == 0) != t162) = true then (amanuensislaw12_step.j4 kj184 x7_4 true a0_0 a0_1 a0_2 x165000_4 x165001_4 x165002_4) else ((amanuensislaw12_num.f t191).bind fun t196 => (if t196 = x13_184 then (amanuensislaw12_step.j4 kj184 x7_4 (t190 != x14_184) a0_0 a0_1 a0_2 x165000_4 x165001_4 x165002_4) else (amanuensislaw12_step.j4 kj184 x7_4 true a0_0 a0_1 a0_2 x165000_4 x165001_4 x165002_4))))) = some (r1, r2, r3, r4) := H
                have A213 := Aside0.mk A2130
                clear A2130
                replace H := Option.bind_eq_some_iff.mp H
                obtain ⟨t195, A2140, H⟩ := H
                replace H : (if ((t195 == 0) != t162) = true then (amanuensislaw12_step.j4 kj184 x7_4 true a0_0 a0_1 a0_2 x165000_4 x165001_4 x165002_4) else ((amanuensislaw12_num.f t191).bind fun t196 => (if t196 = x13_184 then (amanuensislaw12_step.j4 kj184 x7_4 (t190 != x14_184) a0_0 a0_1 a0_2 x165000_4 x165001_4 x165002_4) else (amanuensislaw12_step.j4 kj184 x7_4 true a0_0 a0_1 a0_2 x165000_4 x165001_4 x165002_4)))) = some (r1, r2, r3, r4) := H
                have A214 := Aside0.mk A2140
                clear A2140
                by_cases c215 : ((t195 == 0) != t162) = true
                · rw [if_pos c215] at H
                  have c215b0 : ((t195 == 0) != t162) = true := c215
                  (try (have c215b1 : decide ((t195 == 0) = t162) = false := by simpa using c215))
                  (try (have c215b2 : ((t195 == 0) == t162) = false := by simpa using c215))
                  (try (have c215b3 : ¬ ((t195 == 0) = t162) := by simpa using c215))
                  clear c215
                  have H' := Aside0.mk H
                  clear H
                  go_wp2_with (first | ((with_reducible refine gate_callee (f := 14) rfl ?_); refine goesL_ (some 107) rfl rfl Try.func14 (by kernel_rfl) rfl #[.int .i64 x10_4] rfl (by (try simp only [List.map_toArray, List.map_cons, List.map_nil]); first | done | rfl | (simp only [List.length_drop, List.length_take]; rfl)) ?_; (with_reducible refine (amanuensislaw12_num.calls x10_4 t193 _ A201.out).mono ?_); rintro e w' ⟨rfl, ⟨nd, rfl⟩⟩; refine ⟨_, rfl, ?_⟩; have hnb216 := NB163_159.out; have hnc216 := NB159_163.out; have hnb217 := NB163_160.out; have hnc217 := NB160_163.out; have hnb218 := NB163_161.out; have hnc218 := NB161_163.out; have hnb219 := NB163_164.out; have hnc219 := NB164_163.out; have hcz220_0 : wc.cell? ⟨gb163, 0, none⟩ = some (.string x164000_4) := (blk_cell BK163.out 0).trans rfl; have hcz220_1 : wc.cell? ⟨gb163, 1, none⟩ = some (.string x164001_4) := (blk_cell BK163.out 1).trans rfl; have hcz220_2 : wc.cell? ⟨gb163, 2, none⟩ = some (.int .i64 x164002_4) := (blk_cell BK163.out 2).trans rfl; have hfz220_0 := blk_frozen BK163.out 0; have hfz220_1 := blk_frozen BK163.out 1; have hfz220_2 := blk_frozen BK163.out 2; have hnb221 := NB164_159.out; have hnc221 := NB159_164.out; have hnb222 := NB164_160.out; have hnc222 := NB160_164.out; have hnb223 := NB164_161.out; have hnc223 := NB161_164.out; have hcz224_0 : wc.cell? ⟨gb164, 0, none⟩ = some (.string x165000_4) := (blk_cell BK164.out 0).trans rfl; have hcz224_1 : wc.cell? ⟨gb164, 1, none⟩ = some (.string x165001_4) := (blk_cell BK164.out 1).trans rfl; have hcz224_2 : wc.cell? ⟨gb164, 2, none⟩ = some (.int .i64 x165002_4) := (blk_cell BK164.out 2).trans rfl; have hfz224_0 := blk_frozen BK164.out 0; have hfz224_1 := blk_frozen BK164.out 1; have hfz224_2 := blk_frozen BK164.out 2; have hnb225 := NB159_160.out; have hnc225 := NB160_159.out; have hnb226 := NB159_161.out; have hnc226 := NB161_159.out; have hcz227_0 : wc.cell? ⟨gb159, 0, none⟩ = some (.string a0_0) := (blk_cell BK159.out 0).trans rfl; have hcz227_1 : wc.cell? ⟨gb159, 1, none⟩ = some (.string a0_1) := (blk_cell BK159.out 1).trans rfl; have hcz227_2 : wc.cell? ⟨gb159, 2, none⟩ = some (.int .i64 a0_2) := (blk_cell BK159.out 2).trans rfl; have hfz227_0 := blk_frozen BK159.out 0; have hfz227_1 := blk_frozen BK159.out 1; have hfz227_2 := blk_frozen BK159.out 2) | (go_at_call 45; (with_reducible refine (file_Check.calls a0_0 a0_1 a0_2 t194 _ A213.out).mono ?_); rintro e w228 ⟨rfl, hb⟩; have n0_ := Aside0.mk (blk_below (g := gb159) (o := .cells #[.string a0_0, .string a0_1, .int .i64 a0_2] 23 (0, 0)) (by (with_reducible repeat (first | refine blk_drewN ?_ _ | refine blk_drew ?_ | refine blk_alloc ?_ _)); exact BK159.out) hb); have n1_ := Aside0.mk (blk_below (g := gb160) (o := .cells #[.int .i64 a1_0, .int .i64 a1_1, .string a1_2] 32 (0, 0)) (by (with_reducible repeat (first | refine blk_drewN ?_ _ | refine blk_drew ?_ | refine blk_alloc ?_ _)); exact BK160.out) hb); have n2_ := Aside0.mk (blk_below (g := gb161) (o := .cells #[.string (⟨#[]⟩ : ByteArray), .string (⟨#[]⟩ : ByteArray), .int .i64 0] 23 (0, 0)) (by (with_reducible repeat (first | refine blk_drewN ?_ _ | refine blk_drew ?_ | refine blk_alloc ?_ _)); exact BK161.out) hb); have n3_ := Aside0.mk (blk_below (g := gb163) (o := .cells #[.string x164000_4, .string x164001_4, .int .i64 x164002_4] 23 (0, 0)) (by (with_reducible repeat (first | refine blk_drewN ?_ _ | refine blk_drew ?_ | refine blk_alloc ?_ _)); exact BK163.out) hb); have n4_ := Aside0.mk (blk_below (g := gb164) (o := .cells #[.string x165000_4, .string x165001_4, .int .i64 x165002_4] 23 (0, 0)) (by (with_reducible repeat (first | refine blk_drewN ?_ _ | refine blk_drew ?_ | refine blk_alloc ?_ _)); exact BK164.out) hb); have n5_ := Aside0.mk (below_step (by repeat (first | (with_reducible first | exact HB.out | apply below_alloc | apply pw_below_drewN | apply below_drew1 | refine below_set ?_ GE159.out | refine below_set ?_ GE160.out | refine below_set ?_ GE161.out | refine below_set ?_ GE163.out | refine below_set ?_ GE164.out) | exact HB.out)) hb); clear BK159; clear BK160; clear BK161; clear BK163; clear BK164; clear HB; have BK159 := n0_; have BK160 := n1_; have BK161 := n2_; have BK163 := n3_; have BK164 := n4_; have HB := n5_; clear n0_ n1_ n2_ n3_ n4_ n5_; (try clear hb); (try clear hb2); (try clear hk); (try clear hi)) | (go_at_call 14; (with_reducible refine (amanuensislaw12_num.calls t194 t195 _ A214.out).mono ?_); rintro e w' ⟨rfl, ⟨nd, rfl⟩⟩))
                  go_meet
                  case rel => exact ⟨_, (true), (by first | rfl | (simp; done) | (simp [*]; done)), H', ⟨by have := HJ4.out; have := HJ184.out; first | omega | exact Nat.le_refl _⟩, ⟨by (with_reducible repeat (first | refine blk_drewN ?_ _ | refine blk_drew ?_ | refine blk_alloc ?_ _)); exact BK159.out⟩, ⟨by (with_reducible repeat (first | refine blk_drewN ?_ _ | refine blk_drew ?_ | refine blk_alloc ?_ _)); exact BK160.out⟩, ⟨by (with_reducible repeat (first | refine blk_drewN ?_ _ | refine blk_drew ?_ | refine blk_alloc ?_ _)); exact BK161.out⟩, ⟨by (with_reducible repeat (first | refine blk_drewN ?_ _ | refine blk_drew ?_ | refine blk_alloc ?_ _)); exact BK163.out⟩, ⟨by (with_reducible repeat (first | refine blk_drewN ?_ _ | refine blk_drew ?_ | refine blk_alloc ?_ _)); exact BK164.out⟩, ⟨by repeat (first | (with_reducible first | exact HB.out | apply below_alloc | apply pw_below_drewN | apply below_drew1 | refine below_set ?_ GE159.out | refine below_set ?_ GE160.out | refine below_set ?_ GE161.out | refine below_set ?_ GE163.out | refine below_set ?_ GE164.out) | exact HB.out)⟩⟩
                · rw [if_neg c215] at H
                  have c215b0 : ((t195 == 0) != t162) = false := by simpa using c215
                  (try (have c215b1 : decide ((t195 == 0) = t162) = true := by simpa using c215))
                  (try (have c215b2 : ((t195 == 0) == t162) = true := by simpa using c215))
                  clear c215
                  replace H := Option.bind_eq_some_iff.mp H
                  obtain ⟨t196, A2290, H⟩ := H
                  replace H : (if t196 = x13_184 then (amanuensislaw12_step.j4 kj184 x7_4 (t190 != x14_184) a0_0 a0_1 a0_2 x165000_4 x165001_4 x165002_4) else (amanuensislaw12_step.j4 kj184 x7_4 true a0_0 a0_1 a0_2 x165000_4 x165001_4 x165002_4)) = some (r1, r2, r3, r4) := H
                  have A229 := Aside0.mk A2290
                  clear A2290
                  by_cases c230 : t196 = x13_184
                  · rw [if_pos c230] at H
                    have c230b0 : (t196 == x13_184) = true := beq_iff_eq.mpr c230
                    have c230b1 : (t196 != x13_184) = false := bne_eq_false_iff_eq.mpr c230
                    clear c230
                    have H' := Aside0.mk H
                    clear H
                    go_wp2_with (first | ((with_reducible refine gate_callee (f := 14) rfl ?_); refine goesL_ (some 107) rfl rfl Try.func14 (by kernel_rfl) rfl #[.int .i64 x10_4] rfl (by (try simp only [List.map_toArray, List.map_cons, List.map_nil]); first | done | rfl | (simp only [List.length_drop, List.length_take]; rfl)) ?_; (with_reducible refine (amanuensislaw12_num.calls x10_4 t193 _ A201.out).mono ?_); rintro e w' ⟨rfl, ⟨nd, rfl⟩⟩; refine ⟨_, rfl, ?_⟩; have hnb231 := NB163_159.out; have hnc231 := NB159_163.out; have hnb232 := NB163_160.out; have hnc232 := NB160_163.out; have hnb233 := NB163_161.out; have hnc233 := NB161_163.out; have hnb234 := NB163_164.out; have hnc234 := NB164_163.out; have hcz235_0 : wc.cell? ⟨gb163, 0, none⟩ = some (.string x164000_4) := (blk_cell BK163.out 0).trans rfl; have hcz235_1 : wc.cell? ⟨gb163, 1, none⟩ = some (.string x164001_4) := (blk_cell BK163.out 1).trans rfl; have hcz235_2 : wc.cell? ⟨gb163, 2, none⟩ = some (.int .i64 x164002_4) := (blk_cell BK163.out 2).trans rfl; have hfz235_0 := blk_frozen BK163.out 0; have hfz235_1 := blk_frozen BK163.out 1; have hfz235_2 := blk_frozen BK163.out 2; have hnb236 := NB164_159.out; have hnc236 := NB159_164.out; have hnb237 := NB164_160.out; have hnc237 := NB160_164.out; have hnb238 := NB164_161.out; have hnc238 := NB161_164.out; have hcz239_0 : wc.cell? ⟨gb164, 0, none⟩ = some (.string x165000_4) := (blk_cell BK164.out 0).trans rfl; have hcz239_1 : wc.cell? ⟨gb164, 1, none⟩ = some (.string x165001_4) := (blk_cell BK164.out 1).trans rfl; have hcz239_2 : wc.cell? ⟨gb164, 2, none⟩ = some (.int .i64 x165002_4) := (blk_cell BK164.out 2).trans rfl; have hfz239_0 := blk_frozen BK164.out 0; have hfz239_1 := blk_frozen BK164.out 1; have hfz239_2 := blk_frozen BK164.out 2; have hnb240 := NB159_160.out; have hnc240 := NB160_159.out; have hnb241 := NB159_161.out; have hnc241 := NB161_159.out; have hcz242_0 : wc.cell? ⟨gb159, 0, none⟩ = some (.string a0_0) := (blk_cell BK159.out 0).trans rfl; have hcz242_1 : wc.cell? ⟨gb159, 1, none⟩ = some (.string a0_1) := (blk_cell BK159.out 1).trans rfl; have hcz242_2 : wc.cell? ⟨gb159, 2, none⟩ = some (.int .i64 a0_2) := (blk_cell BK159.out 2).trans rfl; have hfz242_0 := blk_frozen BK159.out 0; have hfz242_1 := blk_frozen BK159.out 1; have hfz242_2 := blk_frozen BK159.out 2) | (go_at_call 45; (with_reducible refine (file_Check.calls a0_0 a0_1 a0_2 t194 _ A213.out).mono ?_); rintro e w243 ⟨rfl, hb⟩; have n0_ := Aside0.mk (blk_below (g := gb159) (o := .cells #[.string a0_0, .string a0_1, .int .i64 a0_2] 23 (0, 0)) (by (with_reducible repeat (first | refine blk_drewN ?_ _ | refine blk_drew ?_ | refine blk_alloc ?_ _)); exact BK159.out) hb); have n1_ := Aside0.mk (blk_below (g := gb160) (o := .cells #[.int .i64 a1_0, .int .i64 a1_1, .string a1_2] 32 (0, 0)) (by (with_reducible repeat (first | refine blk_drewN ?_ _ | refine blk_drew ?_ | refine blk_alloc ?_ _)); exact BK160.out) hb); have n2_ := Aside0.mk (blk_below (g := gb161) (o := .cells #[.string (⟨#[]⟩ : ByteArray), .string (⟨#[]⟩ : ByteArray), .int .i64 0] 23 (0, 0)) (by (with_reducible repeat (first | refine blk_drewN ?_ _ | refine blk_drew ?_ | refine blk_alloc ?_ _)); exact BK161.out) hb); have n3_ := Aside0.mk (blk_below (g := gb163) (o := .cells #[.string x164000_4, .string x164001_4, .int .i64 x164002_4] 23 (0, 0)) (by (with_reducible repeat (first | refine blk_drewN ?_ _ | refine blk_drew ?_ | refine blk_alloc ?_ _)); exact BK163.out) hb); have n4_ := Aside0.mk (blk_below (g := gb164) (o := .cells #[.string x165000_4, .string x165001_4, .int .i64 x165002_4] 23 (0, 0)) (by (with_reducible repeat (first | refine blk_drewN ?_ _ | refine blk_drew ?_ | refine blk_alloc ?_ _)); exact BK164.out) hb); have n5_ := Aside0.mk (below_step (by repeat (first | (with_reducible first | exact HB.out | apply below_alloc | apply pw_below_drewN | apply below_drew1 | refine below_set ?_ GE159.out | refine below_set ?_ GE160.out | refine below_set ?_ GE161.out | refine below_set ?_ GE163.out | refine below_set ?_ GE164.out) | exact HB.out)) hb); clear BK159; clear BK160; clear BK161; clear BK163; clear BK164; clear HB; have BK159 := n0_; have BK160 := n1_; have BK161 := n2_; have BK163 := n3_; have BK164 := n4_; have HB := n5_; clear n0_ n1_ n2_ n3_ n4_ n5_; (try clear hb); (try clear hb2); (try clear hk); (try clear hi)) | (go_at_call 14; (with_reducible refine (amanuensislaw12_num.calls t194 t195 _ A214.out).mono ?_); rintro e w' ⟨rfl, ⟨nd, rfl⟩⟩) | (go_at_call 14; (with_reducible refine (amanuensislaw12_num.calls t191 t196 _ A229.out).mono ?_); rintro e w' ⟨rfl, ⟨nd, rfl⟩⟩))
                    go_meet
                    case rel => exact ⟨_, ((t190 != x14_184)), (by first | rfl | (simp; done) | (simp [*]; done)), H', ⟨by have := HJ4.out; have := HJ184.out; first | omega | exact Nat.le_refl _⟩, ⟨by (with_reducible repeat (first | refine blk_drewN ?_ _ | refine blk_drew ?_ | refine blk_alloc ?_ _)); exact BK159.out⟩, ⟨by (with_reducible repeat (first | refine blk_drewN ?_ _ | refine blk_drew ?_ | refine blk_alloc ?_ _)); exact BK160.out⟩, ⟨by (with_reducible repeat (first | refine blk_drewN ?_ _ | refine blk_drew ?_ | refine blk_alloc ?_ _)); exact BK161.out⟩, ⟨by (with_reducible repeat (first | refine blk_drewN ?_ _ | refine blk_drew ?_ | refine blk_alloc ?_ _)); exact BK163.out⟩, ⟨by (with_reducible repeat (first | refine blk_drewN ?_ _ | refine blk_drew ?_ | refine blk_alloc ?_ _)); exact BK164.out⟩, ⟨by repeat (first | (with_reducible first | exact HB.out | apply below_alloc | apply pw_below_drewN | apply below_drew1 | refine below_set ?_ GE159.out | refine below_set ?_ GE160.out | refine below_set ?_ GE161.out | refine below_set ?_ GE163.out | refine below_set ?_ GE164.out) | exact HB.out)⟩⟩
                  · rw [if_neg c230] at H
                    have c230b0 : (t196 == x13_184) = false := beq_eq_false_iff_ne.mpr c230
                    have c230b1 : (t196 != x13_184) = true := bne_iff_ne.mpr c230
                    have H' := Aside0.mk H
                    clear H
                    go_wp2_with (first | ((with_reducible refine gate_callee (f := 14) rfl ?_); refine goesL_ (some 107) rfl rfl Try.func14 (by kernel_rfl) rfl #[.int .i64 x10_4] rfl (by (try simp only [List.map_toArray, List.map_cons, List.map_nil]); first | done | rfl | (simp only [List.length_drop, List.length_take]; rfl)) ?_; (with_reducible refine (amanuensislaw12_num.calls x10_4 t193 _ A201.out).mono ?_); rintro e w' ⟨rfl, ⟨nd, rfl⟩⟩; refine ⟨_, rfl, ?_⟩; have hnb244 := NB163_159.out; have hnc244 := NB159_163.out; have hnb245 := NB163_160.out; have hnc245 := NB160_163.out; have hnb246 := NB163_161.out; have hnc246 := NB161_163.out; have hnb247 := NB163_164.out; have hnc247 := NB164_163.out; have hcz248_0 : wc.cell? ⟨gb163, 0, none⟩ = some (.string x164000_4) := (blk_cell BK163.out 0).trans rfl; have hcz248_1 : wc.cell? ⟨gb163, 1, none⟩ = some (.string x164001_4) := (blk_cell BK163.out 1).trans rfl; have hcz248_2 : wc.cell? ⟨gb163, 2, none⟩ = some (.int .i64 x164002_4) := (blk_cell BK163.out 2).trans rfl; have hfz248_0 := blk_frozen BK163.out 0; have hfz248_1 := blk_frozen BK163.out 1; have hfz248_2 := blk_frozen BK163.out 2; have hnb249 := NB164_159.out; have hnc249 := NB159_164.out; have hnb250 := NB164_160.out; have hnc250 := NB160_164.out; have hnb251 := NB164_161.out; have hnc251 := NB161_164.out; have hcz252_0 : wc.cell? ⟨gb164, 0, none⟩ = some (.string x165000_4) := (blk_cell BK164.out 0).trans rfl; have hcz252_1 : wc.cell? ⟨gb164, 1, none⟩ = some (.string x165001_4) := (blk_cell BK164.out 1).trans rfl; have hcz252_2 : wc.cell? ⟨gb164, 2, none⟩ = some (.int .i64 x165002_4) := (blk_cell BK164.out 2).trans rfl; have hfz252_0 := blk_frozen BK164.out 0; have hfz252_1 := blk_frozen BK164.out 1; have hfz252_2 := blk_frozen BK164.out 2; have hnb253 := NB159_160.out; have hnc253 := NB160_159.out; have hnb254 := NB159_161.out; have hnc254 := NB161_159.out; have hcz255_0 : wc.cell? ⟨gb159, 0, none⟩ = some (.string a0_0) := (blk_cell BK159.out 0).trans rfl; have hcz255_1 : wc.cell? ⟨gb159, 1, none⟩ = some (.string a0_1) := (blk_cell BK159.out 1).trans rfl; have hcz255_2 : wc.cell? ⟨gb159, 2, none⟩ = some (.int .i64 a0_2) := (blk_cell BK159.out 2).trans rfl; have hfz255_0 := blk_frozen BK159.out 0; have hfz255_1 := blk_frozen BK159.out 1; have hfz255_2 := blk_frozen BK159.out 2) | (go_at_call 45; (with_reducible refine (file_Check.calls a0_0 a0_1 a0_2 t194 _ A213.out).mono ?_); rintro e w256 ⟨rfl, hb⟩; have n0_ := Aside0.mk (blk_below (g := gb159) (o := .cells #[.string a0_0, .string a0_1, .int .i64 a0_2] 23 (0, 0)) (by (with_reducible repeat (first | refine blk_drewN ?_ _ | refine blk_drew ?_ | refine blk_alloc ?_ _)); exact BK159.out) hb); have n1_ := Aside0.mk (blk_below (g := gb160) (o := .cells #[.int .i64 a1_0, .int .i64 a1_1, .string a1_2] 32 (0, 0)) (by (with_reducible repeat (first | refine blk_drewN ?_ _ | refine blk_drew ?_ | refine blk_alloc ?_ _)); exact BK160.out) hb); have n2_ := Aside0.mk (blk_below (g := gb161) (o := .cells #[.string (⟨#[]⟩ : ByteArray), .string (⟨#[]⟩ : ByteArray), .int .i64 0] 23 (0, 0)) (by (with_reducible repeat (first | refine blk_drewN ?_ _ | refine blk_drew ?_ | refine blk_alloc ?_ _)); exact BK161.out) hb); have n3_ := Aside0.mk (blk_below (g := gb163) (o := .cells #[.string x164000_4, .string x164001_4, .int .i64 x164002_4] 23 (0, 0)) (by (with_reducible repeat (first | refine blk_drewN ?_ _ | refine blk_drew ?_ | refine blk_alloc ?_ _)); exact BK163.out) hb); have n4_ := Aside0.mk (blk_below (g := gb164) (o := .cells #[.string x165000_4, .string x165001_4, .int .i64 x165002_4] 23 (0, 0)) (by (with_reducible repeat (first | refine blk_drewN ?_ _ | refine blk_drew ?_ | refine blk_alloc ?_ _)); exact BK164.out) hb); have n5_ := Aside0.mk (below_step (by repeat (first | (with_reducible first | exact HB.out | apply below_alloc | apply pw_below_drewN | apply below_drew1 | refine below_set ?_ GE159.out | refine below_set ?_ GE160.out | refine below_set ?_ GE161.out | refine below_set ?_ GE163.out | refine below_set ?_ GE164.out) | exact HB.out)) hb); clear BK159; clear BK160; clear BK161; clear BK163; clear BK164; clear HB; have BK159 := n0_; have BK160 := n1_; have BK161 := n2_; have BK163 := n3_; have BK164 := n4_; have HB := n5_; clear n0_ n1_ n2_ n3_ n4_ n5_; (try clear hb); (try clear hb2); (try clear hk); (try clear hi)) | (go_at_call 14; (with_reducible refine (amanuensislaw12_num.calls t194 t195 _ A214.out).mono ?_); rintro e w' ⟨rfl, ⟨nd, rfl⟩⟩) | (go_at_call 14; (with_reducible refine (amanuensislaw12_num.calls t191 t196 _ A229.out).mono ?_); rintro e w' ⟨rfl, ⟨nd, rfl⟩⟩))
                    go_meet
                    case rel => exact ⟨_, (true), (by first | rfl | (simp; done) | (simp [*]; done)), H', ⟨by have := HJ4.out; have := HJ184.out; first | omega | exact Nat.le_refl _⟩, ⟨by (with_reducible repeat (first | refine blk_drewN ?_ _ | refine blk_drew ?_ | refine blk_alloc ?_ _)); exact BK159.out⟩, ⟨by (with_reducible repeat (first | refine blk_drewN ?_ _ | refine blk_drew ?_ | refine blk_alloc ?_ _)); exact BK160.out⟩, ⟨by (with_reducible repeat (first | refine blk_drewN ?_ _ | refine blk_drew ?_ | refine blk_alloc ?_ _)); exact BK161.out⟩, ⟨by (with_reducible repeat (first | refine blk_drewN ?_ _ | refine blk_drew ?_ | refine blk_alloc ?_ _)); exact BK163.out⟩, ⟨by (with_reducible repeat (first | refine blk_drewN ?_ _ | refine blk_drew ?_ | refine blk_alloc ?_ _)); exact BK164.out⟩, ⟨by repeat (first | (with_reducible first | exact HB.out | apply below_alloc | apply pw_below_drewN | apply below_drew1 | refine below_set ?_ GE159.out | refine below_set ?_ GE160.out | refine below_set ?_ GE161.out | refine below_set ?_ GE163.out | refine below_set ?_ GE164.out) | exact HB.out)⟩⟩
            · rw [if_neg c202] at H
              have c202b0 : (t193 == x7_4) = false := beq_eq_false_iff_ne.mpr c202
              have c202b1 : (t193 != x7_4) = true := bne_iff_ne.mpr c202
              (first | rw [c202b0] | (simp only [i64_w, i32_w]; rw [c202b0]) | skip)
              have H' := Aside0.mk H
              clear H
              go_wp2_with (first | ((with_reducible refine gate_callee (f := 14) rfl ?_); refine goesL_ (some 107) rfl rfl Try.func14 (by kernel_rfl) rfl #[.int .i64 x10_4] rfl (by (try simp only [List.map_toArray, List.map_cons, List.map_nil]); first | done | rfl | (simp only [List.length_drop, List.length_take]; rfl)) ?_; (with_reducible refine (amanuensislaw12_num.calls x10_4 t193 _ A201.out).mono ?_); rintro e w' ⟨rfl, ⟨nd, rfl⟩⟩; refine ⟨_, rfl, ?_⟩))
              go_meet
              case rel => exact ⟨_, (true), (by first | rfl | (simp; done) | (simp [*]; done)), H', ⟨by have := HJ4.out; have := HJ184.out; first | omega | exact Nat.le_refl _⟩, ⟨by (with_reducible repeat (first | refine blk_drewN ?_ _ | refine blk_drew ?_ | refine blk_alloc ?_ _)); exact BK159.out⟩, ⟨by (with_reducible repeat (first | refine blk_drewN ?_ _ | refine blk_drew ?_ | refine blk_alloc ?_ _)); exact BK160.out⟩, ⟨by (with_reducible repeat (first | refine blk_drewN ?_ _ | refine blk_drew ?_ | refine blk_alloc ?_ _)); exact BK161.out⟩, ⟨by (with_reducible repeat (first | refine blk_drewN ?_ _ | refine blk_drew ?_ | refine blk_alloc ?_ _)); exact BK163.out⟩, ⟨by (with_reducible repeat (first | refine blk_drewN ?_ _ | refine blk_drew ?_ | refine blk_alloc ?_ _)); exact BK164.out⟩, ⟨by repeat (first | (with_reducible first | exact HB.out | apply below_alloc | apply pw_below_drewN | apply below_drew1 | refine below_set ?_ GE159.out | refine below_set ?_ GE160.out | refine below_set ?_ GE161.out | refine below_set ?_ GE163.out | refine below_set ?_ GE164.out) | exact HB.out)⟩⟩
          case rest =>
            clear HC200
            try clear c1
            try clear c2
            try clear p2
            try clear c4
            try clear c8
            try clear c11
            try clear c12
            try clear c13
            try clear c14
            try clear c15
            try clear c16
            try clear c17
            try clear c18
            try clear c19
            try clear c20
            try clear c21
            try clear c22
            try clear c23
            try clear c24
            try clear c25
            try clear c43
            try clear c44
            try clear c85
            try clear c85b0
            try clear c85b1
            try clear c112
            try clear c113
            try clear c113b0
            try clear c113b1
            try clear c114
            try clear c115
            try clear c125
            try clear c126
            try clear c127
            try clear c128
            try clear c131
            try clear c133
            try clear c133b0
            try clear c134
            try clear c134b0
            try clear c134b1
            try clear c134b2
            try clear c135
            try clear c136
            try clear c137
            try clear c138
            try clear c140
            try clear c141
            try clear c142
            try clear c145
            try clear c146
            try clear c155
            try clear c156
            try clear c157
            try clear c158
            try clear c160
            try clear c161
            try clear c162
            try clear c165
            try clear c166
            try clear c171
            try clear c172
            try clear c173
            try clear c174
            try clear c176
            try clear c177
            try clear c178
            try clear c181
            try clear c182
            try clear c186
            try clear c187
            try clear c188
            try clear c189
            try clear c192
            try clear c194
            try clear c195
            try clear c196
            try clear c197
            try clear c202
            try clear c202b0
            try clear c202b1
            try clear c203
            try clear c203b0
            try clear c204
            try clear c205
            try clear c206
            try clear c207
            try clear c209
            try clear c210
            try clear c211
            try clear c215
            try clear c215b0
            try clear c215b1
            try clear c215b2
            try clear c216
            try clear c217
            try clear c218
            try clear c219
            try clear c221
            try clear c222
            try clear c223
            try clear c225
            try clear c226
            try clear c230
            try clear c230b0
            try clear c230b1
            try clear c231
            try clear c232
            try clear c233
            try clear c234
            try clear c236
            try clear c237
            try clear c238
            try clear c240
            try clear c241
            try clear c244
            try clear c245
            try clear c246
            try clear c247
            try clear c249
            try clear c250
            try clear c251
            try clear c253
            try clear c254
            try clear hcz129_0
            try clear hcz129_1
            try clear hcz129_2
            try clear hcz139_0
            try clear hcz139_1
            try clear hcz139_2
            try clear hcz143_0
            try clear hcz143_1
            try clear hcz143_2
            try clear hcz147_0
            try clear hcz147_1
            try clear hcz147_2
            try clear hcz159_0
            try clear hcz159_1
            try clear hcz159_2
            try clear hcz163_0
            try clear hcz163_1
            try clear hcz163_2
            try clear hcz167_0
            try clear hcz167_1
            try clear hcz167_2
            try clear hcz175_0
            try clear hcz175_1
            try clear hcz175_2
            try clear hcz179_0
            try clear hcz179_1
            try clear hcz179_2
            try clear hcz183_0
            try clear hcz183_1
            try clear hcz183_2
            try clear hcz190_0
            try clear hcz190_1
            try clear hcz190_2
            try clear hcz198_0
            try clear hcz198_1
            try clear hcz198_2
            try clear hcz208_0
            try clear hcz208_1
            try clear hcz208_2
            try clear hcz212_0
            try clear hcz212_1
            try clear hcz212_2
            try clear hcz220_0
            try clear hcz220_1
            try clear hcz220_2
            try clear hcz224_0
            try clear hcz224_1
            try clear hcz224_2
            try clear hcz227_0
            try clear hcz227_1
            try clear hcz227_2
            try clear hcz235_0
            try clear hcz235_1
            try clear hcz235_2
            try clear hcz239_0
            try clear hcz239_1
            try clear hcz239_2
            try clear hcz242_0
            try clear hcz242_1
            try clear hcz242_2
            try clear hcz248_0
            try clear hcz248_1
            try clear hcz248_2
            try clear hcz252_0
            try clear hcz252_1
            try clear hcz252_2
            try clear hcz255_0
            try clear hcz255_1
            try clear hcz255_2
            try clear hfz129_0
            try clear hfz129_1
            try clear hfz129_2
            try clear hfz139_0
            try clear hfz139_1
            try clear hfz139_2
            try clear hfz143_0
            try clear hfz143_1
            try clear hfz143_2
            try clear hfz147_0
            try clear hfz147_1
            try clear hfz147_2
            try clear hfz159_0
            try clear hfz159_1
            try clear hfz159_2
            try clear hfz163_0
            try clear hfz163_1
            try clear hfz163_2
            try clear hfz167_0
            try clear hfz167_1
            try clear hfz167_2
            try clear hfz175_0
            try clear hfz175_1
            try clear hfz175_2
            try clear hfz179_0
            try clear hfz179_1
            try clear hfz179_2
            try clear hfz183_0
            try clear hfz183_1
            try clear hfz183_2
            try clear hfz190_0
            try clear hfz190_1
            try clear hfz190_2
            try clear hfz198_0
            try clear hfz198_1
            try clear hfz198_2
            try clear hfz208_0
            try clear hfz208_1
            try clear hfz208_2
            try clear hfz212_0
            try clear hfz212_1
            try clear hfz212_2
            try clear hfz220_0
            try clear hfz220_1
            try clear hfz220_2
            try clear hfz224_0
            try clear hfz224_1
            try clear hfz224_2
            try clear hfz227_0
            try clear hfz227_1
            try clear hfz227_2
            try clear hfz235_0
            try clear hfz235_1
            try clear hfz235_2
            try clear hfz239_0
            try clear hfz239_1
            try clear hfz239_2
            try clear hfz242_0
            try clear hfz242_1
            try clear hfz242_2
            try clear hfz248_0
            try clear hfz248_1
            try clear hfz248_2
            try clear hfz252_0
            try clear hfz252_1
            try clear hfz252_2
            try clear hfz255_0
            try clear hfz255_1
            try clear hfz255_2
            try clear p2
            obtain ⟨kq, x133_199, rfl, HA, HJ199, BK159, BK160, BK161, BK163, BK164, HB⟩ := hcut
            cases kq with
            | zero => exact absurd HA.out (by simp [amanuensislaw12_step.j4])
            | succ kj199 =>
              have H := HA.out
              clear HA
              simp only [amanuensislaw12_step.j4] at H
              by_cases c257 : x133_199 = true
              · subst c257
                have H1 : (some (a0_0, a0_1, a0_2, false)) = some (r1, r2, r3, r4) := by rw [if_pos rfl] at H; exact H
                clear H
                have H := H1
                clear H1
                simp only [Option.some.injEq, Prod.mk.injEq] at H
                obtain ⟨rfl, rfl, rfl, rfl⟩ := H
                have hnb258 := NB159_160.out
                have hnc258 := NB160_159.out
                have hnb259 := NB159_161.out
                have hnc259 := NB161_159.out
                have hnb260 := NB159_163.out
                have hnc260 := NB163_159.out
                have hnb261 := NB159_164.out
                have hnc261 := NB164_159.out
                have hcz262_0 : wc.cell? ⟨gb159, 0, none⟩ = some (.string a0_0) := (blk_cell BK159.out 0).trans rfl
                have hcz262_1 : wc.cell? ⟨gb159, 1, none⟩ = some (.string a0_1) := (blk_cell BK159.out 1).trans rfl
                have hcz262_2 : wc.cell? ⟨gb159, 2, none⟩ = some (.int .i64 a0_2) := (blk_cell BK159.out 2).trans rfl
                have hfz262_0 := blk_frozen BK159.out 0
                have hfz262_1 := blk_frozen BK159.out 1
                have hfz262_2 := blk_frozen BK159.out 2
                have hnb263 := NB161_160.out
                have hnc263 := NB160_161.out
                have hnb264 := NB161_163.out
                have hnc264 := NB163_161.out
                have hnb265 := NB161_164.out
                have hnc265 := NB164_161.out
                have hcz266_0 : wc.cell? ⟨gb161, 0, none⟩ = some (.string (⟨#[]⟩ : ByteArray)) := (blk_cell BK161.out 0).trans rfl
                have hcz266_1 : wc.cell? ⟨gb161, 1, none⟩ = some (.string (⟨#[]⟩ : ByteArray)) := (blk_cell BK161.out 1).trans rfl
                have hcz266_2 : wc.cell? ⟨gb161, 2, none⟩ = some (.int .i64 0) := (blk_cell BK161.out 2).trans rfl
                have hfz266_0 := blk_frozen BK161.out 0
                have hfz266_1 := blk_frozen BK161.out 1
                have hfz266_2 := blk_frozen BK161.out 2
                go_wp2
                refine bodyPost_ret (results_ct rfl _ _ gb161 23 #[.string a0_0, .string a0_1, .int .i64 a0_2] (0, 0) _ rfl (by (with_reducible repeat (first | refine blk_drewN ?_ _ | refine blk_drew ?_ | refine blk_alloc ?_ _)); refine blk_put (cs := #[.string a0_0, .string a0_1, .int .i64 0]) ?_ 2 _ rfl; (with_reducible repeat (first | refine blk_drewN ?_ _ | refine blk_drew ?_ | refine blk_alloc ?_ _)); refine blk_put (cs := #[.string a0_0, .string (⟨#[]⟩ : ByteArray), .int .i64 0]) ?_ 1 _ rfl; (with_reducible repeat (first | refine blk_drewN ?_ _ | refine blk_drew ?_ | refine blk_alloc ?_ _)); refine blk_put (cs := #[.string (⟨#[]⟩ : ByteArray), .string (⟨#[]⟩ : ByteArray), .int .i64 0]) ?_ 0 _ rfl; (with_reducible repeat (first | refine blk_drewN ?_ _ | refine blk_drew ?_ | refine blk_alloc ?_ _)); exact BK161.out) Try.underlying23 rfl (by kernel_rfl)) rfl ?_
                exact ⟨by first | rfl | (simp [errW_none, errW_some] <;> rfl) | (simp [*, errW_none, errW_some] <;> rfl), by repeat (first | (with_reducible first | exact HB.out | apply below_alloc | apply pw_below_drewN | apply below_drew1 | refine below_set ?_ GE159.out | refine below_set ?_ GE160.out | refine below_set ?_ GE161.out | refine below_set ?_ GE163.out | refine below_set ?_ GE164.out) | exact HB.out)⟩
              · replace c257 := Bool.eq_false_iff.mpr c257
                subst c257
                have H1 : (if x7_4 = 0 then (some (x165000_4, x165001_4, x165002_4, true)) else (some (a0_0, a0_1, a0_2, true))) = some (r1, r2, r3, r4) := by rw [if_neg (show ¬ (false = true) by decide)] at H; exact H
                clear H
                have H := H1
                clear H1
                by_cases c267 : x7_4 = 0
                · rw [if_pos c267] at H
                  have c267b0 : (x7_4 == 0) = true := beq_iff_eq.mpr c267
                  have c267b1 : (x7_4 != 0) = false := bne_eq_false_iff_eq.mpr c267
                  clear c267
                  simp only [Option.some.injEq, Prod.mk.injEq] at H
                  obtain ⟨rfl, rfl, rfl, rfl⟩ := H
                  have hnb268 := NB164_159.out
                  have hnc268 := NB159_164.out
                  have hnb269 := NB164_160.out
                  have hnc269 := NB160_164.out
                  have hnb270 := NB164_161.out
                  have hnc270 := NB161_164.out
                  have hnb271 := NB164_163.out
                  have hnc271 := NB163_164.out
                  have hcz272_0 : wc.cell? ⟨gb164, 0, none⟩ = some (.string x165000_4) := (blk_cell BK164.out 0).trans rfl
                  have hcz272_1 : wc.cell? ⟨gb164, 1, none⟩ = some (.string x165001_4) := (blk_cell BK164.out 1).trans rfl
                  have hcz272_2 : wc.cell? ⟨gb164, 2, none⟩ = some (.int .i64 x165002_4) := (blk_cell BK164.out 2).trans rfl
                  have hfz272_0 := blk_frozen BK164.out 0
                  have hfz272_1 := blk_frozen BK164.out 1
                  have hfz272_2 := blk_frozen BK164.out 2
                  have hnb273 := NB161_159.out
                  have hnc273 := NB159_161.out
                  have hnb274 := NB161_160.out
                  have hnc274 := NB160_161.out
                  have hnb275 := NB161_163.out
                  have hnc275 := NB163_161.out
                  have hcz276_0 : wc.cell? ⟨gb161, 0, none⟩ = some (.string (⟨#[]⟩ : ByteArray)) := (blk_cell BK161.out 0).trans rfl
                  have hcz276_1 : wc.cell? ⟨gb161, 1, none⟩ = some (.string (⟨#[]⟩ : ByteArray)) := (blk_cell BK161.out 1).trans rfl
                  have hcz276_2 : wc.cell? ⟨gb161, 2, none⟩ = some (.int .i64 0) := (blk_cell BK161.out 2).trans rfl
                  have hfz276_0 := blk_frozen BK161.out 0
                  have hfz276_1 := blk_frozen BK161.out 1
                  have hfz276_2 := blk_frozen BK161.out 2
                  go_wp2
                  refine bodyPost_ret (results_ct rfl _ _ gb161 23 #[.string x165000_4, .string x165001_4, .int .i64 x165002_4] (0, 0) _ rfl (by (with_reducible repeat (first | refine blk_drewN ?_ _ | refine blk_drew ?_ | refine blk_alloc ?_ _)); refine blk_put (cs := #[.string x165000_4, .string x165001_4, .int .i64 0]) ?_ 2 _ rfl; (with_reducible repeat (first | refine blk_drewN ?_ _ | refine blk_drew ?_ | refine blk_alloc ?_ _)); refine blk_put (cs := #[.string x165000_4, .string (⟨#[]⟩ : ByteArray), .int .i64 0]) ?_ 1 _ rfl; (with_reducible repeat (first | refine blk_drewN ?_ _ | refine blk_drew ?_ | refine blk_alloc ?_ _)); refine blk_put (cs := #[.string (⟨#[]⟩ : ByteArray), .string (⟨#[]⟩ : ByteArray), .int .i64 0]) ?_ 0 _ rfl; (with_reducible repeat (first | refine blk_drewN ?_ _ | refine blk_drew ?_ | refine blk_alloc ?_ _)); exact BK161.out) Try.underlying23 rfl (by kernel_rfl)) rfl ?_
                  exact ⟨by first | rfl | (simp [errW_none, errW_some] <;> rfl) | (simp [*, errW_none, errW_some] <;> rfl), by repeat (first | (with_reducible first | exact HB.out | apply below_alloc | apply pw_below_drewN | apply below_drew1 | refine below_set ?_ GE159.out | refine below_set ?_ GE160.out | refine below_set ?_ GE161.out | refine below_set ?_ GE163.out | refine below_set ?_ GE164.out) | exact HB.out)⟩
                · rw [if_neg c267] at H
                  have c267b0 : (x7_4 == 0) = false := beq_eq_false_iff_ne.mpr c267
                  have c267b1 : (x7_4 != 0) = true := bne_iff_ne.mpr c267
                  simp only [Option.some.injEq, Prod.mk.injEq] at H
                  obtain ⟨rfl, rfl, rfl, rfl⟩ := H
                  have hnb277 := NB159_160.out
                  have hnc277 := NB160_159.out
                  have hnb278 := NB159_161.out
                  have hnc278 := NB161_159.out
                  have hnb279 := NB159_163.out
                  have hnc279 := NB163_159.out
                  have hnb280 := NB159_164.out
                  have hnc280 := NB164_159.out
                  have hcz281_0 : wc.cell? ⟨gb159, 0, none⟩ = some (.string a0_0) := (blk_cell BK159.out 0).trans rfl
                  have hcz281_1 : wc.cell? ⟨gb159, 1, none⟩ = some (.string a0_1) := (blk_cell BK159.out 1).trans rfl
                  have hcz281_2 : wc.cell? ⟨gb159, 2, none⟩ = some (.int .i64 a0_2) := (blk_cell BK159.out 2).trans rfl
                  have hfz281_0 := blk_frozen BK159.out 0
                  have hfz281_1 := blk_frozen BK159.out 1
                  have hfz281_2 := blk_frozen BK159.out 2
                  have hnb282 := NB161_160.out
                  have hnc282 := NB160_161.out
                  have hnb283 := NB161_163.out
                  have hnc283 := NB163_161.out
                  have hnb284 := NB161_164.out
                  have hnc284 := NB164_161.out
                  have hcz285_0 : wc.cell? ⟨gb161, 0, none⟩ = some (.string (⟨#[]⟩ : ByteArray)) := (blk_cell BK161.out 0).trans rfl
                  have hcz285_1 : wc.cell? ⟨gb161, 1, none⟩ = some (.string (⟨#[]⟩ : ByteArray)) := (blk_cell BK161.out 1).trans rfl
                  have hcz285_2 : wc.cell? ⟨gb161, 2, none⟩ = some (.int .i64 0) := (blk_cell BK161.out 2).trans rfl
                  have hfz285_0 := blk_frozen BK161.out 0
                  have hfz285_1 := blk_frozen BK161.out 1
                  have hfz285_2 := blk_frozen BK161.out 2
                  go_wp2
                  refine bodyPost_ret (results_ct rfl _ _ gb161 23 #[.string a0_0, .string a0_1, .int .i64 a0_2] (0, 0) _ rfl (by (with_reducible repeat (first | refine blk_drewN ?_ _ | refine blk_drew ?_ | refine blk_alloc ?_ _)); refine blk_put (cs := #[.string a0_0, .string a0_1, .int .i64 0]) ?_ 2 _ rfl; (with_reducible repeat (first | refine blk_drewN ?_ _ | refine blk_drew ?_ | refine blk_alloc ?_ _)); refine blk_put (cs := #[.string a0_0, .string (⟨#[]⟩ : ByteArray), .int .i64 0]) ?_ 1 _ rfl; (with_reducible repeat (first | refine blk_drewN ?_ _ | refine blk_drew ?_ | refine blk_alloc ?_ _)); refine blk_put (cs := #[.string (⟨#[]⟩ : ByteArray), .string (⟨#[]⟩ : ByteArray), .int .i64 0]) ?_ 0 _ rfl; (with_reducible repeat (first | refine blk_drewN ?_ _ | refine blk_drew ?_ | refine blk_alloc ?_ _)); exact BK161.out) Try.underlying23 rfl (by kernel_rfl)) rfl ?_
                  exact ⟨by first | rfl | (simp [errW_none, errW_some] <;> rfl) | (simp [*, errW_none, errW_some] <;> rfl), by repeat (first | (with_reducible first | exact HB.out | apply below_alloc | apply pw_below_drewN | apply below_drew1 | refine below_set ?_ GE159.out | refine below_set ?_ GE160.out | refine below_set ?_ GE161.out | refine below_set ?_ GE163.out | refine below_set ?_ GE164.out) | exact HB.out)⟩

end Go.Proofs.Ytpemehpfkkjpiaa.OFiles
