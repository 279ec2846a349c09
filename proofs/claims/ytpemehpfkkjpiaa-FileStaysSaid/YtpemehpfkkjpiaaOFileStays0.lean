/-
  FileStays: what its loop comes to, and its order's tables. Lines began as the kit's print; turned by our stays.py.
-/
import Derived.Test.YtpemehpfkkjpiaaOFilesx2
namespace Go.Proofs.Ytpemehpfkkjpiaa.OFiles
open Go.RowKit Go.Proofs.YtpemehpfkkjpiaaW.PrintWords Go.Proofs.YtpemehpfkkjpiaaW.PrintLast Go.Proofs.YtpemehpfkkjpiaaW.PrintMore
attribute [local go_sem] max2_int min2_int max_two min_two max_three min_three max_four min_four   -- for this text's walks alone
set_option linter.unusedVariables false
set_option linter.unusedSimpArgs false

/-! ### FStays: function 3 -/
mutual
def FStays.l0 : Nat → Int → ByteArray → ByteArray → Int → Int → List (S32) → ByteArray → ByteArray → Int → Option (Bool)
  | 0, _, _, _, _, _, _, _, _, _ => none
  | k + 1, x4, x145000, x145001, x145002, x145003, x145004, x147000, x147001, x147002 => if x4 < (x145004.length : Int) then (FStays.j1 k x4 (decide (x4 < 20)) x145000 x145001 x145002 x145003 x145004 x147000 x147001 x147002) else (FStays.j1 k x4 false x145000 x145001 x145002 x145003 x145004 x147000 x147001 x147002)
def FStays.j1 : Nat → Int → Bool → ByteArray → ByteArray → Int → Int → List (S32) → ByteArray → ByteArray → Int → Option (Bool)
  | 0, _, _, _, _, _, _, _, _, _, _ => none
  | k + 1, x4, x22, x145000, x145001, x145002, x145003, x145004, x147000, x147001, x147002 => if x22 = true then (if 0 ≤ x4 then (if x4 < (x145004.length : Int) then ((file_Append.f x147000 x147001 x147002 ((rd_T32 x145004 x4).f2)).bind fun bt149 => ((amanuensislaw12_num.f bt149.2.2.2).bind fun t154 => (if t154 = 7 then (FStays.l0 k (wrap64 (x4 + 1)) x145000 x145001 x145002 x145003 x145004 x147000 x147001 x147002) else ((file_Crash.f bt149.1 bt149.2.1 bt149.2.2.1 ((rd_T32 x145004 x4).f1)).bind fun bt156 => ((file_Sync.f bt149.1 bt149.2.1 bt149.2.2.1).bind fun bt161 => ((amanuensislaw12_num.f bt149.2.2.2).bind fun t166 => (if t166 = 0 then ((amanuensislaw12_num.f bt156.2.2.2).bind fun t167 => (if t167 = 0 then ((amanuensislaw12_num.f bt161.2.2.2).bind fun t168 => (if t168 = 0 then (if (bt156.1.size : Int) < (x147000.size : Int) then (FStays.j2 k x4 true x145000 x145001 x145002 x145003 x145004 bt149.1 bt149.2.1 bt149.2.2.1 bt156.1 bt156.2.1 bt156.2.2.1 bt161.1 bt161.2.1 bt161.2.2.1) else (if 0 ≤ (x147000.size : Int) then (if (x147000.size : Int) ≤ (bt156.1.size : Int) then (if (bt156.1.extract 0 ((x147000.size : Int) : Int).toNat).toList = x147000.toList then (if (bt161.1.size : Int) < (bt156.1.size : Int) then (FStays.j2 k x4 true x145000 x145001 x145002 x145003 x145004 bt149.1 bt149.2.1 bt149.2.2.1 bt156.1 bt156.2.1 bt156.2.2.1 bt161.1 bt161.2.1 bt161.2.2.1) else (if 0 ≤ (bt156.1.size : Int) then (if (bt156.1.size : Int) ≤ (bt161.1.size : Int) then (if (bt161.1.extract 0 ((bt156.1.size : Int) : Int).toNat).toList = bt156.1.toList then (if bt161.2.1.toList = ([] : List UInt8) then (if bt156.2.1.toList = ([] : List UInt8) then (if bt149.1.size + bt149.2.1.size ≤ 9223372036854775807 then (FStays.j2 k x4 (bt161.1.toList != (bt149.1 ++ bt149.2.1).toList) x145000 x145001 x145002 x145003 x145004 bt149.1 bt149.2.1 bt149.2.2.1 bt156.1 bt156.2.1 bt156.2.2.1 bt161.1 bt161.2.1 bt161.2.2.1) else (none)) else (FStays.j2 k x4 true x145000 x145001 x145002 x145003 x145004 bt149.1 bt149.2.1 bt149.2.2.1 bt156.1 bt156.2.1 bt156.2.2.1 bt161.1 bt161.2.1 bt161.2.2.1)) else (FStays.j2 k x4 true x145000 x145001 x145002 x145003 x145004 bt149.1 bt149.2.1 bt149.2.2.1 bt156.1 bt156.2.1 bt156.2.2.1 bt161.1 bt161.2.1 bt161.2.2.1)) else (FStays.j2 k x4 true x145000 x145001 x145002 x145003 x145004 bt149.1 bt149.2.1 bt149.2.2.1 bt156.1 bt156.2.1 bt156.2.2.1 bt161.1 bt161.2.1 bt161.2.2.1)) else (none)) else (none))) else (FStays.j2 k x4 true x145000 x145001 x145002 x145003 x145004 bt149.1 bt149.2.1 bt149.2.2.1 bt156.1 bt156.2.1 bt156.2.2.1 bt161.1 bt161.2.1 bt161.2.2.1)) else (none)) else (none))) else (FStays.j2 k x4 true x145000 x145001 x145002 x145003 x145004 bt149.1 bt149.2.1 bt149.2.2.1 bt156.1 bt156.2.1 bt156.2.2.1 bt161.1 bt161.2.1 bt161.2.2.1))) else (FStays.j2 k x4 true x145000 x145001 x145002 x145003 x145004 bt149.1 bt149.2.1 bt149.2.2.1 bt156.1 bt156.2.1 bt156.2.2.1 bt161.1 bt161.2.1 bt161.2.2.1))) else (FStays.j2 k x4 true x145000 x145001 x145002 x145003 x145004 bt149.1 bt149.2.1 bt149.2.2.1 bt156.1 bt156.2.1 bt156.2.2.1 bt161.1 bt161.2.1 bt161.2.2.1)))))))) else (none)) else (none)) else ((amanuensislaw12_wakes.f).bind fun t147 => (some t147))
def FStays.j2 : Nat → Int → Bool → ByteArray → ByteArray → Int → Int → List (S32) → ByteArray → ByteArray → Int → ByteArray → ByteArray → Int → ByteArray → ByteArray → Int → Option (Bool)
  | 0, _, _, _, _, _, _, _, _, _, _, _, _, _, _, _, _ => none
  | k + 1, x4, x127, x145000, x145001, x145002, x145003, x145004, x154000, x154001, x154002, x161000, x161001, x161002, x166000, x166001, x166002 => if x127 = true then (some false) else (if (Int.tmod x4 3) = 0 then (FStays.l0 k (wrap64 (x4 + 1)) x145000 x145001 x145002 x145003 x145004 x154000 x154001 x154002) else (if (Int.tmod x4 3) = 1 then (FStays.l0 k (wrap64 (x4 + 1)) x145000 x145001 x145002 x145003 x145004 x166000 x166001 x166002) else (FStays.l0 k (wrap64 (x4 + 1)) x145000 x145001 x145002 x145003 x145004 x161000 x161001 x161002)))
end
def FStays.f (k : Nat) (a0_0 : ByteArray) (a0_1 : ByteArray) (a0_2 : Int) (a0_3 : Int) (l0_4 : List (S32)) : Option (Bool) := (amanuensislaw12_Heavy.f k a0_0 a0_1 a0_2 a0_3 l0_4).bind fun t145 => (if t145 = true then (some true) else (FStays.l0 k 0 a0_0 a0_1 a0_2 a0_3 l0_4 (⟨#[]⟩ : ByteArray) (⟨#[]⟩ : ByteArray) 200))
theorem FStays.mono_l : ∀ k, (∀ y0 y1 y2 y3 y4 y5 y6 y7 y8, LeO (FStays.l0 k y0 y1 y2 y3 y4 y5 y6 y7 y8) (FStays.l0 (k + 1) y0 y1 y2 y3 y4 y5 y6 y7 y8)) ∧ (∀ y0 y1 y2 y3 y4 y5 y6 y7 y8 y9, LeO (FStays.j1 k y0 y1 y2 y3 y4 y5 y6 y7 y8 y9) (FStays.j1 (k + 1) y0 y1 y2 y3 y4 y5 y6 y7 y8 y9)) ∧ (∀ y0 y1 y2 y3 y4 y5 y6 y7 y8 y9 y10 y11 y12 y13 y14 y15, LeO (FStays.j2 k y0 y1 y2 y3 y4 y5 y6 y7 y8 y9 y10 y11 y12 y13 y14 y15) (FStays.j2 (k + 1) y0 y1 y2 y3 y4 y5 y6 y7 y8 y9 y10 y11 y12 y13 y14 y15))
  | 0 => ⟨fun _ _ _ _ _ _ _ _ _ r h => by simp [FStays.l0] at h, fun _ _ _ _ _ _ _ _ _ _ r h => by simp [FStays.j1] at h, fun _ _ _ _ _ _ _ _ _ _ _ _ _ _ _ _ r h => by simp [FStays.j2] at h⟩
  | k + 1 => by
    obtain ⟨ih0, ih1, ih2⟩ := FStays.mono_l k
    refine ⟨?_, ?_, ?_⟩
    · intro y0 y1 y2 y3 y4 y5 y6 y7 y8
      unfold FStays.l0
      repeat' first
      | (with_reducible exact ih0 _ _ _ _ _ _ _ _ _)
      | (with_reducible exact ih1 _ _ _ _ _ _ _ _ _ _)
      | (with_reducible exact ih2 _ _ _ _ _ _ _ _ _ _ _ _ _ _ _ _)
      | (with_reducible exact amanuensislaw12_Heavy.mono _ _ _ _ _ _)
      | (with_reducible exact LeO.refl _)
      | (with_reducible exact LeO.none _)
      | (with_reducible refine LeO.ite ?_ ?_)
      | (with_reducible refine LeO.bind ?_ (fun _ => ?_))
      | exact ih0 _ _ _ _ _ _ _ _ _
      | exact ih1 _ _ _ _ _ _ _ _ _ _
      | exact ih2 _ _ _ _ _ _ _ _ _ _ _ _ _ _ _ _
      | exact amanuensislaw12_Heavy.mono _ _ _ _ _ _
      | exact LeO.none _
      | refine LeO.ite ?_ ?_
      | refine LeO.bind ?_ (fun _ => ?_)
    · intro y0 y1 y2 y3 y4 y5 y6 y7 y8 y9
      unfold FStays.j1
      repeat' first
      | (with_reducible exact ih0 _ _ _ _ _ _ _ _ _)
      | (with_reducible exact ih1 _ _ _ _ _ _ _ _ _ _)
      | (with_reducible exact ih2 _ _ _ _ _ _ _ _ _ _ _ _ _ _ _ _)
      | (with_reducible exact amanuensislaw12_Heavy.mono _ _ _ _ _ _)
      | (with_reducible exact LeO.refl _)
      | (with_reducible exact LeO.none _)
      | (with_reducible refine LeO.ite ?_ ?_)
      | (with_reducible refine LeO.bind ?_ (fun _ => ?_))
      | exact ih0 _ _ _ _ _ _ _ _ _
      | exact ih1 _ _ _ _ _ _ _ _ _ _
      | exact ih2 _ _ _ _ _ _ _ _ _ _ _ _ _ _ _ _
      | exact amanuensislaw12_Heavy.mono _ _ _ _ _ _
      | exact LeO.none _
      | refine LeO.ite ?_ ?_
      | refine LeO.bind ?_ (fun _ => ?_)
    · intro y0 y1 y2 y3 y4 y5 y6 y7 y8 y9 y10 y11 y12 y13 y14 y15
      unfold FStays.j2
      repeat' first
      | (with_reducible exact ih0 _ _ _ _ _ _ _ _ _)
      | (with_reducible exact ih1 _ _ _ _ _ _ _ _ _ _)
      | (with_reducible exact ih2 _ _ _ _ _ _ _ _ _ _ _ _ _ _ _ _)
      | (with_reducible exact amanuensislaw12_Heavy.mono _ _ _ _ _ _)
      | (with_reducible exact LeO.refl _)
      | (with_reducible exact LeO.none _)
      | (with_reducible refine LeO.ite ?_ ?_)
      | (with_reducible refine LeO.bind ?_ (fun _ => ?_))
      | exact ih0 _ _ _ _ _ _ _ _ _
      | exact ih1 _ _ _ _ _ _ _ _ _ _
      | exact ih2 _ _ _ _ _ _ _ _ _ _ _ _ _ _ _ _
      | exact amanuensislaw12_Heavy.mono _ _ _ _ _ _
      | exact LeO.none _
      | refine LeO.ite ?_ ?_
      | refine LeO.bind ?_ (fun _ => ?_)
theorem FStays.mono : ∀ a0 a1 a2 a3 a4 k, LeO (FStays.f k a0 a1 a2 a3 a4) (FStays.f (k + 1) a0 a1 a2 a3 a4) := by
  intro a0 a1 a2 a3 a4 k
  obtain ⟨ih0, ih1, ih2⟩ := FStays.mono_l k
  unfold FStays.f
  repeat' first
      | (with_reducible exact ih0 _ _ _ _ _ _ _ _ _)
      | (with_reducible exact ih1 _ _ _ _ _ _ _ _ _ _)
      | (with_reducible exact ih2 _ _ _ _ _ _ _ _ _ _ _ _ _ _ _ _)
      | (with_reducible exact amanuensislaw12_Heavy.mono _ _ _ _ _ _)
      | (with_reducible exact LeO.refl _)
      | (with_reducible exact LeO.none _)
      | (with_reducible refine LeO.ite ?_ ?_)
      | (with_reducible refine LeO.bind ?_ (fun _ => ?_))
      | exact ih0 _ _ _ _ _ _ _ _ _
      | exact ih1 _ _ _ _ _ _ _ _ _ _
      | exact ih2 _ _ _ _ _ _ _ _ _ _ _ _ _ _ _ _
      | exact amanuensislaw12_Heavy.mono _ _ _ _ _ _
      | exact LeO.none _
      | refine LeO.ite ?_ ?_
      | refine LeO.bind ?_ (fun _ => ?_)
def FStays.T7 : Bool × List (List Nat × List Nat) := (true, [([], []), ([], []), ([1], [1]), ([], []), ([2, 3], [2, 3]), ([4], [4]), ([5], [5]), ([0, 6], [0, 6]), ([7], [7]), ([8], [8]), ([8], [8]), ([], []), ([11, 9, 7, 0, 1, 2, 3, 4, 5, 6, 7, 8, 9, 11], [9, 11]), ([10, 12, 0, 1, 2, 3, 4, 5, 6, 7, 8, 9, 10, 11, 12], [10])])
def FStays.B7 : List Nat := [0, 0, 2, 0, 14, 30, 62, 127, 255, 511, 511, 0, 3071, 8191]
theorem FStays.tab7 : rtab .any (opsOf Try.f3 7) = FStays.T7 := by kernel_rfl
theorem FStays.bits7 : waitsOk FStays.T7.2 FStays.B7 = true := by kernel_rfl
def FStays.T9 : Bool × List (List Nat × List Nat) := (true, [([], []), ([], []), ([1], [1]), ([], []), ([2, 3], [2, 3]), ([4], [4]), ([5], [5]), ([0, 6], [0, 6]), ([7], [7]), ([8], [8]), ([8], [8]), ([], []), ([11, 9, 7, 0, 1, 2, 3, 4, 5, 6, 7, 8, 9, 11], [9, 11]), ([10, 12, 0, 1, 2, 3, 4, 5, 6, 7, 8, 9, 10, 11, 12], [10])])
def FStays.B9 : List Nat := [0, 0, 2, 0, 14, 30, 62, 127, 255, 511, 511, 0, 3071, 8191]
theorem FStays.tab9 : rtab .any (opsOf Try.f3 9) = FStays.T9 := by kernel_rfl
theorem FStays.bits9 : waitsOk FStays.T9.2 FStays.B9 = true := by kernel_rfl
def FStays.T11 : Bool × List (List Nat × List Nat) := (true, [([], []), ([0], [0]), ([1], [1]), ([2, 1], [2]), ([3], [3]), ([4, 3, 3], [3, 4]), ([5, 3], [3, 5]), ([3, 6], [3, 6]), ([7, 5], [7]), ([8], [8]), ([9, 8, 8], [8, 9]), ([10, 8], [8, 10]), ([8, 11], [8, 11]), ([12, 10], [12]), ([13], [13]), ([14, 13], [13, 14]), ([15, 13], [13, 15]), ([13], [13]), ([17, 13], [13, 17]), ([18, 13], [13, 18]), ([16, 19, 13], [13, 16, 19]), ([13, 20], [13, 20]), ([21, 13], [21]), ([22], [22]), ([23, 22], [22, 23]), ([22], [22]), ([25, 22], [22, 25]), ([26, 22], [22, 26]), ([24, 27, 22], [22, 24, 27]), ([22], [22]), ([29, 22], [22, 29]), ([28, 30, 22], [22, 28, 30]), ([22, 31], [22, 31]), ([32, 22], [32]), ([33], [33]), ([34, 33], [33, 34]), ([35, 33], [33, 35]), ([33], [33]), ([37, 33], [33, 37]), ([38, 33], [33, 38]), ([36, 39, 33], [33, 36, 39]), ([33, 40], [33, 40]), ([41, 33], [41]), ([42], [42]), ([43, 42], [42, 43]), ([42], [42]), ([45, 42], [42, 45]), ([46, 42], [42, 46]), ([44, 47, 42], [42, 44, 47]), ([42], [42]), ([49, 42], [42, 49]), ([48, 50, 42], [42, 48, 50]), ([42, 51], [42, 51]), ([52, 42], [52]), ([53], [53]), ([54, 53], [53, 54]), ([55, 53], [53, 55]), ([53, 56], [53, 56]), ([57, 53], [57]), ([58], [58]), ([59, 58], [58, 59]), ([60, 58], [58, 60]), ([58, 61], [58, 61]), ([62, 58], [62]), ([63], [63]), ([64, 63], [63, 64]), ([63], [63]), ([66, 63], [63, 66]), ([63], [63]), ([68, 63], [63, 68]), ([67, 69, 63], [63, 67, 69]), ([65, 70, 63], [63, 65, 70]), ([63, 71], [63, 71])])
def FStays.B11 : List Nat := [0, 1, 3, 7, 15, 31, 63, 127, 255, 511, 1023, 2047, 4095, 8191, 16383, 32767, 65535, 16383, 147455, 409599, 1048575, 2097151, 4194303, 8388607, 16777215, 8388607, 41943039, 109051903, 268435455, 8388607, 545259519, 2147483647, 4294967295, 8589934591, 17179869183, 34359738367, 68719476735, 17179869183, 154618822655, 429496729599, 1099511627775, 2199023255551, 4398046511103, 8796093022207, 17592186044415, 8796093022207, 43980465111039, 114349209288703, 281474976710655, 8796093022207, 571746046443519, 2251799813685247, 4503599627370495, 9007199254740991, 18014398509481983, 36028797018963967, 72057594037927935, 144115188075855871, 288230376151711743, 576460752303423487, 1152921504606846975, 2305843009213693951, 4611686018427387903, 9223372036854775807, 18446744073709551615, 36893488147419103231, 18446744073709551615, 92233720368547758079, 18446744073709551615, 313594649253062377471, 1125251388496282648575, 2361183241434822606847, 4722366482869645213695]
theorem FStays.tab11 : rtab .any (opsOf Try.f3 11) = FStays.T11 := by kernel_rfl
theorem FStays.bits11 : waitsOk FStays.T11.2 FStays.B11 = true := by kernel_rfl
theorem FStays.no_true (k : Nat) (x4 : Int) (y0 y1 : ByteArray) (y2 y3 : Int) (L : List S32) (z0 z1 : ByteArray) (z2 : Int) (z3 z4 : ByteArray) (z5 : Int) (z6 z7 : ByteArray) (z8 : Int) (h : FStays.j2 k x4 true y0 y1 y2 y3 L z0 z1 z2 z3 z4 z5 z6 z7 z8 = some true) : False := by
  cases k with
  | zero => simp [FStays.j2] at h
  | succ k => simp [FStays.j2] at h
end Go.Proofs.Ytpemehpfkkjpiaa.OFiles
