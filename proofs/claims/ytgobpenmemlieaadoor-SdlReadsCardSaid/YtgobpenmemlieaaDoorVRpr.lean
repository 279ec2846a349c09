/- Packed by our own shrink.py: theorems that the claim does not use are left out. -/
import Derived.Test.YtgobpenmemlieaaDoorVSch
/-
  The walk of amanuensisref4.Print.
-/
namespace Go.Proofs.YtgobpenmemlieaaDoor.Lex
open Go.RowKit Go.Proofs.YtgobpenmemlieaaDoorW.PrintWords Go.Proofs.YtgobpenmemlieaaDoorW.PrintLast Go.Proofs.YtgobpenmemlieaaDoorW.PrintMore PSdlBack
set_option linter.unusedVariables false
set_option linter.unusedSimpArgs false
def fm : List ByteArray := [(⟨#[40]⟩ : ByteArray), (⟨#[119, 104, 111]⟩ : ByteArray), (⟨#[58]⟩ : ByteArray), (⟨#[83, 116, 114, 105, 110, 103]⟩ : ByteArray), (⟨#[33]⟩ : ByteArray), (⟨#[110]⟩ : ByteArray), (⟨#[58]⟩ : ByteArray), (⟨#[73, 110, 116]⟩ : ByteArray), (⟨#[33]⟩ : ByteArray), (⟨#[41]⟩ : ByteArray), (⟨#[58]⟩ : ByteArray), (⟨#[83, 116, 101, 112]⟩ : ByteArray), (⟨#[64]⟩ : ByteArray), (⟨#[115, 97, 103, 97]⟩ : ByteArray), (⟨#[40]⟩ : ByteArray), (⟨#[115, 101, 114, 118, 105, 99, 101]⟩ : ByteArray), (⟨#[58]⟩ : ByteArray), (⟨#[]⟩ : ByteArray), (⟨#[100, 111]⟩ : ByteArray), (⟨#[58]⟩ : ByteArray), (⟨#[]⟩ : ByteArray), (⟨#[117, 110, 100, 111]⟩ : ByteArray), (⟨#[58]⟩ : ByteArray), (⟨#[]⟩ : ByteArray), (⟨#[41]⟩ : ByteArray)]
def fw (j : Nat) : ByteArray := fm.getD j ⟨#[]⟩
def isB (j : Nat) : Bool := (fw j).data.toList.isEmpty
/-- How many of the first j are left open. -/
def kB : Nat → Nat
  | 0 => 0
  | j + 1 => if isB j then kB j + 1 else kB j
def names3 (x : S54) : List ByteArray := [(svcName x.f1), x.f2, x.f3]
def nw (x : S54) (k : Nat) : ByteArray := (names3 x).getD k ⟨#[]⟩
def fillAt (x : S54) (j : Nat) : ByteArray := if isB j then nw x (kB j) else fw j
def fillS (x : S54) : Nat → Nat → ByteArray → ByteArray
  | 0, _, s => s
  | n + 1, j, s => fillS x n (j + 1) ((s ++ (⟨#[32]⟩ : ByteArray)) ++ fillAt x j)
def rp : List S54 → ByteArray → ByteArray
  | [], s => s
  | x :: l, s => rp l (fillS x 25 0 ((s ++ (⟨#[32]⟩ : ByteArray)) ++ x.f0))
def rprint (l : List S54) : ByteArray := rp l T0 ++ (⟨#[32, 125]⟩ : ByteArray)
structure Tiny (x : S54) : Prop where
  t0 : x.f0.size ≤ 12
  t1 : (svcName x.f1).size ≤ 12
  t2 : x.f2.size ≤ 12
  t3 : x.f3.size ≤ 12
  ts : isServ x.f1 = true
theorem kB_lt : ∀ j : Nat, j < 25 → isB j = true → kB j < 3 := by decide +kernel
theorem fm_tiny : ∀ j : Nat, j < 25 → (fw j).size ≤ 12 := by decide +kernel
theorem size_app (a b : ByteArray) : (a ++ b).size = a.size + b.size := by simp
theorem name_tiny {x : S54} (h : Tiny x) (k : Nat) : (nw x k).size ≤ 12 := by
  match k with
  | 0 => exact h.t1
  | 1 => exact h.t2
  | 2 => exact h.t3
  | k + 3 => exact (by decide : (⟨#[]⟩ : ByteArray).size ≤ 12)
set_option maxHeartbeats 8000000 in
set_option maxRecDepth 100000 in
theorem RPrint_calls (A : Option Addr) (c : Nat) (l : List S54) (w : World) (hl : l.length ≤ 8) (hC : Kd.C k54 w A l.length l) (htiny : ∀ j : Nat, j < l.length → Tiny (rd_T54 l j)) :
    Calls Tryd.prog 10 #[.slice A l.length c] w fun e w' => e = .returned (.string (rprint l)) ∧ Below w.heap.size w w' := by
  have HC := Aside0.mk hC
  have HTN := Aside0.mk htiny
  have HB := Aside0.mk (Below.refl w.heap.size w)
  obtain ⟨q, hq⟩ : ∃ q, rp l T0 = q := ⟨_, rfl⟩
  have hq2 : rprint l = q ++ (⟨#[32, 125]⟩ : ByteArray) := by unfold rprint; rw [hq]
  rw [hq2]
  have HQ : Aside0 (rp (l.drop 0) T0 = q) := ⟨hq⟩
  clear hC htiny hq hq2
  go_enter Tryd.func10, Tryd.ntmps10
  go_wp2
  go_loopg [3, 4] l.length (fun kq v3 v4 w' => ∃ (i : Nat) (s : ByteArray), v4 = .int .i64 i ∧ v3 = .string s ∧ i ≤ l.length ∧ i + kq = l.length ∧ s.size ≤ 100 + 1000 * i ∧ Aside0 (rp (l.drop i) s = q) ∧ Aside0 (Below w.heap.size w w'))
  case atStart => exact ⟨0, T0, rfl, rfl, by omega, by omega, by decide, HQ, ⟨(by repeat (first | (with_reducible first | exact HB.out | apply below_alloc | apply pw_below_drewN | apply below_drew1) | exact HB.out))⟩⟩
  case round =>
    clear HB HQ
    obtain ⟨i, s, rfl, rfl, hi, hk, hs, HE, HB⟩ := hrel
    by_cases hil : i < l.length
    · have c1 : decide ((i : Int) < (l.length : Int)) = true := decide_eq_true (by omega)
      obtain ⟨k1, rfl⟩ : ∃ k1, gk = k1 + 1 := ⟨gk - 1, by omega⟩
      obtain ⟨ad, e, hx0_, hx1_, hx2_, hx3_⟩ := at_T54 HC.out (i : Int) (by omega) (by omega)
      cases e
      replace hx0_ := pw_cell_below HB.out hx0_
      replace hx1_ := pw_cell_below HB.out hx1_
      replace hx2_ := pw_cell_below HB.out hx2_
      replace hx3_ := pw_cell_below HB.out hx3_
      rw [Int.toNat_natCast] at hx0_ hx1_ hx2_ hx3_
      have hd : l.drop i = rd_T54 l i :: l.drop (i + 1) := by
        rw [List.drop_eq_getElem_cons hil]
        congr 1
        unfold rd_T54
        rw [Int.toNat_natCast, List.getD_eq_getElem?_getD, List.getElem?_eq_getElem hil]
        rfl
      have htx := HTN.out i hil
      have hst := HE.out
      rw [hd] at hst
      clear HE hd
      generalize rd_T54 l i = x at hx0_ hx1_ hx2_ hx3_ hst htx
      unfold rp at hst
      have HST := Aside0.mk hst
      have HTX := Aside0.mk htx
      have hx0 : 0 ≤ x.f1 := by have := htx.ts; unfold isServ at this; simp at this; omega
      have hx4 : x.f1 < 5 := by have := htx.ts; unfold isServ at this; simp at this; omega
      have ht0 := htx.t0
      clear hst htx
      have p1 := eq_true (show (0 : Int) ≤ (i : Int) by omega)
      have p2 := eq_true (show (i : Int) < (l.length : Int) by omega)
      have p3 := eq_true hil
      have p4 := eq_true hx0
      have p5 := eq_true hx4
      have p6 := eq_true (show x.f1.toNat < 5 by omega)
      have p7 : (x.f1 < (svcs.length : Int)) = True := eq_true hx4
      have p8 : (x.f1.toNat < svcs.length) = True := eq_true (show x.f1.toNat < 5 by omega)
      have z1 : s.size + 1 ≤ 9223372036854775807 := by omega
      have z2 : (s ++ (⟨#[32]⟩ : ByteArray)).size + x.f0.size ≤ 9223372036854775807 := by rw [size_app]; have : (⟨#[32]⟩ : ByteArray).size = 1 := rfl; omega
      go_wp2
      have HM5 : Aside0 (MS wr (wr.alloc (.cells #[.string x.f0, .int .i64 x.f1, .string x.f2, .string x.f3] 54)).drew #[.string x.f0, .int .i64 x.f1, .string x.f2, .string x.f3]) := ⟨MS.drew_ (MS.new wr #[.string x.f0, .int .i64 x.f1, .string x.f2, .string x.f3])⟩
      have n1_ : Aside0 (Below w.heap.size w (wr.alloc (.cells #[.string x.f0, .int .i64 x.f1, .string x.f2, .string x.f3] 54)).drew) := ⟨below_step HB.out HM5.out.1⟩
      clear HB
      have HB := n1_
      clear n1_
      refine start_ (n := 11) (S := fun w' => w'.cell? ⟨wr.heap.size, 0, none⟩ = some (.string x.f0) ∧ w'.cell? ⟨wr.heap.size, 1, none⟩ = some (.int .i64 x.f1) ∧ w'.cell? ⟨wr.heap.size, 2, none⟩ = some (.string x.f2) ∧ w'.cell? ⟨wr.heap.size, 3, none⟩ = some (.string x.f3)) (ds := []) #[false, false, false, false, false, false, false, false, false, false, false] (by kernel_rfl) rfl rfl ⟨(blk_cell HM5.out.2 0).trans rfl, (blk_cell HM5.out.2 1).trans rfl, (blk_cell HM5.out.2 2).trans rfl, (blk_cell HM5.out.2 3).trans rfl⟩ (fun hHeld => ?_)
      generalize (wr.alloc (.cells #[.string x.f0, .int .i64 x.f1, .string x.f2, .string x.f3] 54)).drew = w5 at HM5 HB hHeld ⊢
      refine pure_ (i := 1) (N := some 21) (v := ?_) (a' := ?_) #[false, true, false, false, false, false, false, false, false, false, false] rfl rfl (by kernel_rfl) (fun _ _ _ h => h) (Or.inl ⟨by rfl, ?_⟩) ?_ ?_
      rotate_left
      · intro w'
        go_simp
        with_reducible rfl
      rotate_left
      · simp only [Act.put, List.setIfInBounds_toArray, List.set_cons_zero, List.set_cons_succ, i64_w, i32_w]
        rfl
      refine pure_ (i := 5) (N := some 25) (v := ?_) (a' := ?_) #[false, true, false, false, false, true, false, false, false, false, false] rfl rfl (by kernel_rfl) (fun _ _ _ h => h) (Or.inl ⟨by rfl, ?_⟩) ?_ ?_
      rotate_left
      · intro w'
        go_simp
        with_reducible rfl
      rotate_left
      · simp only [Act.put, List.setIfInBounds_toArray, List.set_cons_zero, List.set_cons_succ, i64_w, i32_w]
        rfl
      refine pure_ (i := 7) (N := some 27) (v := ?_) (a' := ?_) #[false, true, false, false, false, true, false, true, false, false, false] rfl rfl (by kernel_rfl) (fun _ _ _ h => h) (Or.inl ⟨by rfl, ?_⟩) ?_ ?_
      rotate_left
      · intro w'
        go_simp
        with_reducible rfl
      rotate_left
      · simp only [Act.put, List.setIfInBounds_toArray, List.set_cons_zero, List.set_cons_succ, i64_w, i32_w]
        rfl
      refine take_ (i := 2) (N := some 22) (v := ?_) (a' := ?_) #[false, true, true, false, false, true, false, true, false, false, false] rfl rfl (by kernel_rfl) (fun _ _ _ h => h) (Or.inl ⟨by rfl, ?_⟩) hHeld ?_ ?_
      rotate_left
      · rintro w' ⟨s0, s1, s2, s3⟩
        go_simp
        with_reducible rfl
      rotate_left
      · simp only [Act.put, List.setIfInBounds_toArray, List.set_cons_zero, List.set_cons_succ, i64_w, i32_w]
        rfl
      refine take_ (i := 6) (N := some 26) (v := ?_) (a' := ?_) #[false, true, true, false, false, true, true, true, false, false, false] rfl rfl (by kernel_rfl) (fun _ _ _ h => h) (Or.inl ⟨by rfl, ?_⟩) hHeld ?_ ?_
      rotate_left
      · rintro w' ⟨s0, s1, s2, s3⟩
        go_simp
        with_reducible rfl
      rotate_left
      · simp only [Act.put, List.setIfInBounds_toArray, List.set_cons_zero, List.set_cons_succ, i64_w, i32_w]
        rfl
      refine take_ (i := 8) (N := some 28) (v := ?_) (a' := ?_) #[false, true, true, false, false, true, true, true, true, false, false] rfl rfl (by kernel_rfl) (fun _ _ _ h => h) (Or.inl ⟨by rfl, ?_⟩) hHeld ?_ ?_
      rotate_left
      · rintro w' ⟨s0, s1, s2, s3⟩
        go_simp
        with_reducible rfl
      rotate_left
      · simp only [Act.put, List.setIfInBounds_toArray, List.set_cons_zero, List.set_cons_succ, i64_w, i32_w]
        rfl
      refine one_ (i := 0) (N := some 20) #[true, true, true, false, false, true, true, true, true, false, false] rfl rfl (by kernel_rfl) (by decide) (fun K hK => ?_)
      refine goes_ Tryd.func25 (by kernel_rfl) rfl #[] (by rfl) rfl rfl (by first | (simp only [List.map_toArray, List.map_cons, List.map_nil]; done) | rfl | simp) ?_
      with_reducible refine (amanuensisref4_Services.calls svcs _ rfl).mono ?_
      rintro e wq ⟨v20, rfl, ho0, hb⟩
      refine ⟨_, rfl, ?_⟩
      have n0_ : Aside0 (MS wr _ #[.string x.f0, .int .i64 x.f1, .string x.f2, .string x.f3]) := ⟨MS.call HM5.out hb⟩
      have n1_ := Aside0.mk (below_step HB.out hb)
      clear HM5 HB
      have HM5 := n0_
      have HB := n1_
      clear n0_ n1_
      obtain ⟨As, cs_, rfl, hcs, hCs⟩ := Kd.R_reads ho0
      obtain ⟨adS, eS, hsv⟩ := str_at hCs x.f1 hx0 hx4
      cases eS
      have hsv2 : wq.cell? (adS.add x.f1.toNat) = some (.string (svcName x.f1)) := hsv
      clear ho0 hCs hsv
      refine hK.out _ _ ⟨(blk_cell HM5.out.2 0).trans rfl, (blk_cell HM5.out.2 1).trans rfl, (blk_cell HM5.out.2 2).trans rfl, (blk_cell HM5.out.2 3).trans rfl⟩ (fun hHeld => ?_)
      clear hK K
      refine norm_ (a' := ?_) ?_ ?_
      rotate_left
      · show Act.put _ (some 20) _ = _
        simp only [Act.put, List.setIfInBounds_toArray, List.set_cons_zero, List.set_cons_succ, i64_w, i32_w]
        rfl
      refine pure_ (i := 3) (N := some 23) (v := ?_) (a' := ?_) #[true, true, true, true, false, true, true, true, true, false, false] rfl rfl (by kernel_rfl) (fun _ _ _ h => h) (Or.inl ⟨by rfl, ?_⟩) ?_ ?_
      rotate_left
      · intro w'
        go_simp
        with_reducible rfl
      rotate_left
      · simp only [Act.put, List.setIfInBounds_toArray, List.set_cons_zero, List.set_cons_succ, i64_w, i32_w]
        rfl
      refine one_ (i := 4) (N := some 24) #[true, true, true, true, true, true, true, true, true, false, false] rfl rfl (by kernel_rfl) (by decide) (fun K hK => ?_)
      refine value_ (w1 := ?_) (v := ?_) (by rfl) rfl ?_ ?_
      rotate_left 2
      · go_simp
        constructor
        · rfl
        · rfl
      refine hK.out _ _ ⟨(blk_cell HM5.out.2 0).trans rfl, (blk_cell HM5.out.2 1).trans rfl, (blk_cell HM5.out.2 2).trans rfl, (blk_cell HM5.out.2 3).trans rfl⟩ (fun hHeld => ?_)
      clear hK K
      refine norm_ (a' := ?_) ?_ ?_
      rotate_left
      · show Act.put _ (some 24) _ = _
        simp only [Act.put, List.setIfInBounds_toArray, List.set_cons_zero, List.set_cons_succ, i64_w, i32_w]
        rfl
      refine one_ (i := 9) (N := some 29) #[true, true, true, true, true, true, true, true, true, true, false] rfl rfl (by kernel_rfl) (by decide) (fun K hK => ?_)
      refine Kd.R_lit_step Kd.string _ 9 ?hg (N := 29) ?hd (xs := ([(svcName x.f1), x.f2, x.f3] : List ByteArray)) (inner := [.string (svcName x.f1), .string x.f2, .string x.f3]) (ok := fun _ => True) (okp := fun _ => False) ?hr ?hp (fun _ hk => hk.elim) ?hf (Below.refl _ _) (Nat.le_refl _) (by simp) ?_; (case hd => rfl); (case hg => rfl); (case hr => first | (go_simp; done) | (go_simp; rfl)); (case hp => exact (Reps.one (show Kd.M Kd.string _ _ _ ((svcName x.f1) : ByteArray) [.string ((svcName x.f1))] from rfl) (Reps.one (show Kd.M Kd.string _ _ _ (x.f2 : ByteArray) [.string (x.f2)] from rfl) (Reps.one (show Kd.M Kd.string _ _ _ (x.f3 : ByteArray) [.string (x.f3)] from rfl) (Reps.none _ _))))); (case hf => trivial)
      intro v29 w8 ho0 hb hg_ hnew_
      clear hg_ hnew_
      have n0_ : Aside0 (MS wr _ #[.string x.f0, .int .i64 x.f1, .string x.f2, .string x.f3]) := ⟨MS.call HM5.out hb⟩
      have n1_ := Aside0.mk (below_step HB.out hb)
      clear HM5 HB
      have HM5 := n0_
      have HB := n1_
      clear n0_ n1_
      obtain ⟨An, cn, rfl, hcn, hCn⟩ := Kd.R_reads ho0
      have HCN := Aside0.mk hCn
      clear ho0 hCn
      refine hK.out _ _ ⟨(blk_cell HM5.out.2 0).trans rfl, (blk_cell HM5.out.2 1).trans rfl, (blk_cell HM5.out.2 2).trans rfl, (blk_cell HM5.out.2 3).trans rfl⟩ (fun hHeld => ?_)
      clear hK K
      refine norm_ (a' := ?_) ?_ ?_
      rotate_left
      · show Act.put _ (some 29) _ = _
        simp only [Act.put, List.setIfInBounds_toArray, List.set_cons_zero, List.set_cons_succ, i64_w, i32_w]
        rfl
      refine pure_ (i := 10) (N := some 6) (v := ?_) (a' := ?_) #[true, true, true, true, true, true, true, true, true, true, true] rfl rfl (by kernel_rfl) (fun _ _ _ h => h) (Or.inl ⟨by rfl, ?_⟩) ?_ ?_
      rotate_left
      · intro w'
        go_simp
        with_reducible rfl
      rotate_left
      · simp only [Act.put, List.setIfInBounds_toArray, List.set_cons_zero, List.set_cons_succ, i64_w, i32_w]
        rfl
      refine done_ (by kernel_rfl) ?_
      have hcz0 : w8.cell? ⟨wr.heap.size, 0, none⟩ = some (.string x.f0) := (blk_cell HM5.out.2 0).trans rfl
      go_wp2
      have HBW := HB
      clear HB
      have HB := Aside0.mk (Below.refl w8.heap.size w8)
      have HSZ : ((s ++ (⟨#[32]⟩ : ByteArray)) ++ x.f0).size ≤ 120 + 1000 * i := by rw [size_app, size_app]; have : (⟨#[32]⟩ : ByteArray).size = 1 := rfl; omega
      obtain ⟨s1, hs1⟩ : ∃ s1, (s ++ (⟨#[32]⟩ : ByteArray)) ++ x.f0 = s1 := ⟨_, rfl⟩
      rw [hs1] at HST HSZ ⊢
      obtain ⟨s2, hs2⟩ : ∃ s2, fillS x 25 0 s1 = s2 := ⟨_, rfl⟩
      rw [hs2] at HST
      have HJ : Aside0 (fillS x (25 - 0) 0 s1 = s2) := ⟨hs2⟩
      clear hs1 hs2 z1 z2
      obtain ⟨an, ean, -⟩ := str_at HCN.out 0 (by omega) (by show (0 : Int) < 3; decide)
      cases ean
      have HNM : ∀ k : Nat, k < 3 → Aside0 (w8.cell? (an.add k) = some (.string (nw x k))) := fun k hk3 => ⟨by
        obtain ⟨an2, ean2, hc2⟩ := str_at HCN.out (k : Int) (by omega) (by show (k : Int) < 3; omega)
        cases ean2
        rw [Int.toNat_natCast] at hc2
        exact hc2⟩
      clear hcz0 HCN
      go_loopg [3, 7, 8] 25 (fun kq v3 v7 v8 w' => ∃ (j : Nat) (t : ByteArray), v3 = .string t ∧ v7 = .int .i64 (kB j) ∧ v8 = .int .i64 j ∧ j ≤ 25 ∧ j + kq = 25 ∧ t.size ≤ 120 + 1000 * i + 20 * j ∧ Aside0 (fillS x (25 - j) j t = s2) ∧ Aside0 (Below w8.heap.size w8 w'))
      case atStart => exact ⟨0, s1, rfl, rfl, rfl, by omega, by omega, by omega, HJ, ⟨(by repeat (first | (with_reducible first | exact HB.out | apply below_alloc | apply pw_below_drewN | apply below_drew1) | exact HB.out))⟩⟩
      case round =>
        clear HB HJ
        obtain ⟨j, t, rfl, rfl, rfl, hj, hkj, hts, HF, HB⟩ := hrel
        by_cases hj25 : j < 25
        · obtain ⟨k2, rfl⟩ : ∃ k2, gk = k2 + 1 := ⟨gk - 1, by omega⟩
          have hj25 : (j : Int) < (fm.length : Int) := by show (j : Int) < 25; omega
          have c2 : decide ((j : Int) < (fm.length : Int)) = true := decide_eq_true hj25
          have c3 : decide ((j : Int) < 25) = true := decide_eq_true (by omega)
          have q1 := eq_true (show (0 : Int) ≤ (j : Int) by omega)
          have q2 := eq_true hj25
          have q3 : (j < fm.length) = True := eq_true (by show j < 25; omega)
          have q4 : (j < 25) = True := eq_true (by omega)
          have q5 : ((j : Int) < 25) = True := eq_true (by omega)
          have hstep : fillS x (25 - (j + 1)) (j + 1) ((t ++ (⟨#[32]⟩ : ByteArray)) ++ fillAt x j) = s2 := by
            have h1 := HF.out
            rw [show 25 - j = (25 - (j + 1)) + 1 by omega] at h1
            exact h1
          have hfz : (fillAt x j).size ≤ 12 := by
            unfold fillAt
            split
            · exact name_tiny HTX.out _
            · exact fm_tiny j (by omega)
          have z1 : t.size + 1 ≤ 9223372036854775807 := by omega
          have hone : (⟨#[32]⟩ : ByteArray).size = 1 := rfl
          have z2 : (t ++ (⟨#[32]⟩ : ByteArray)).size + (fillAt x j).size ≤ 9223372036854775807 := by rw [size_app]; omega
          have hnz : ((t ++ (⟨#[32]⟩ : ByteArray)) ++ fillAt x j).size ≤ 120 + 1000 * i + 20 * (j + 1) := by rw [size_app, size_app]; omega
          have HS := Aside0.mk hstep
          clear hstep HF
          cases hb : isB j with
          | true =>
            have hk3 := kB_lt j (by omega) hb
            have HNK := HNM (kB j) hk3
            have he : (fw j).toList.isEmpty = true := by rw [toL_eq]; exact hb
            have hfa : fillAt x j = nw x (kB j) := by unfold fillAt; rw [if_pos hb]
            have hk1 : kB (j + 1) = kB j + 1 := by show (if isB j then kB j + 1 else kB j) = _; rw [if_pos hb]
            rw [hfa] at HS z2 hnz
            have q6 := eq_true (show (0 : Int) ≤ (kB j : Int) by omega)
            have q7 := eq_true (show (kB j : Int) < 3 by omega)
            have q8 := eq_true hk3
            clear hfa hfz
            go_wp2_with (first | (go_at_call 31; refine (amanuensisref4_form.calls fm _ rfl).mono ?_; rintro e wq3 ⟨v9, rfl, hR9, hb2⟩; obtain ⟨Af, cf, rfl, hcf, hCf⟩ := Kd.R_reads hR9; obtain ⟨af, eaf, hf⟩ := str_at hCf (j : Int) (by omega) hj25; cases eaf; rw [Int.toNat_natCast] at hf; have hf2 : wq3.cell? (af.add j) = some (.string (fw j)) := hf; clear hf; have n0_ := Aside0.mk (below_step (by repeat (first | (with_reducible first | exact HB.out | apply below_alloc | apply pw_below_drewN | apply below_drew1) | exact HB.out)) hb2); clear HB; have HB := n0_; clear n0_ hb2 hR9 hCf; (try clear hn); have hn := pw_cell_below HB.out HNK.out))
            go_roundg k2
            case measure => omega
            case rel => exact ⟨j + 1, _, rfl, by rw [hk1]; first | rfl | (simp only [Int.natCast_add]; done) | (simp only [Int.natCast_add]; rfl), by first | rfl | (simp only [Int.natCast_add]; done) | (simp only [Int.natCast_add]; rfl), by omega, by omega, hnz, HS, ⟨(by repeat (first | (with_reducible first | exact HB.out | apply below_alloc | apply pw_below_drewN | apply below_drew1) | exact HB.out))⟩⟩
          | false =>
            have HNK := HNM 0 (by omega)
            have he : (fw j).toList.isEmpty = false := by rw [toL_eq]; exact hb
            have hfa : fillAt x j = fw j := by unfold fillAt; rw [if_neg (by rw [hb]; decide)]
            have hk1 : kB (j + 1) = kB j := by show (if isB j then kB j + 1 else kB j) = _; rw [if_neg (by rw [hb]; decide)]
            rw [hfa] at HS z2 hnz
            clear hfa hfz
            go_wp2_with (first | (go_at_call 31; refine (amanuensisref4_form.calls fm _ rfl).mono ?_; rintro e wq3 ⟨v9, rfl, hR9, hb2⟩; obtain ⟨Af, cf, rfl, hcf, hCf⟩ := Kd.R_reads hR9; obtain ⟨af, eaf, hf⟩ := str_at hCf (j : Int) (by omega) hj25; cases eaf; rw [Int.toNat_natCast] at hf; have hf2 : wq3.cell? (af.add j) = some (.string (fw j)) := hf; clear hf; have n0_ := Aside0.mk (below_step (by repeat (first | (with_reducible first | exact HB.out | apply below_alloc | apply pw_below_drewN | apply below_drew1) | exact HB.out)) hb2); clear HB; have HB := n0_; clear n0_ hb2 hR9 hCf; (try clear hn); have hn := pw_cell_below HB.out HNK.out))
            go_roundg k2
            case measure => omega
            case rel => exact ⟨j + 1, _, rfl, by rw [hk1], by first | rfl | (simp only [Int.natCast_add]; done) | (simp only [Int.natCast_add]; rfl), by omega, by omega, hnz, HS, ⟨(by repeat (first | (with_reducible first | exact HB.out | apply below_alloc | apply pw_below_drewN | apply below_drew1) | exact HB.out))⟩⟩
        · have ej : j = 25 := by omega
          subst ej
          have h1 : t = s2 := HF.out
          subst h1
          clear HF
          have c2 : decide ((25 : Int) < (fm.length : Int)) = false := rfl
          go_wp2_with (first | (go_at_call 31; refine (amanuensisref4_form.calls fm _ rfl).mono ?_; rintro e wq3 ⟨v9, rfl, hR9, hb2⟩; obtain ⟨Af, cf, rfl, hcf, hCf⟩ := Kd.R_reads hR9; have n0_ := Aside0.mk (below_step (by repeat (first | (with_reducible first | exact HB.out | apply below_alloc | apply pw_below_drewN | apply below_drew1) | exact HB.out)) hb2); clear HB; have HB := n0_; clear n0_ hb2 hR9 hCf))
          go_roundg k1
          case measure => omega
          case rel => exact ⟨i + 1, _, by first | rfl | (simp only [Int.natCast_add]; done) | (simp only [Int.natCast_add]; rfl), rfl, by omega, by omega, by omega, HST, ⟨below_step HBW.out HB.out⟩⟩
    · have c1 : decide ((i : Int) < (l.length : Int)) = false := decide_eq_false (by omega)
      have hst := HE.out
      rw [List.drop_eq_nil_of_le (by omega)] at hst
      have hst2 : s = q := hst
      subst hst2
      clear HE hst
      have z1 : s.size + 2 ≤ 9223372036854775807 := by omega
      go_wp2
      go_ret
      exact ⟨rfl, (by repeat (first | (with_reducible first | exact HB.out | apply below_alloc | apply pw_below_drewN | apply below_drew1) | exact HB.out))⟩
end Go.Proofs.YtgobpenmemlieaaDoor.Lex
