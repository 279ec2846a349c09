/- Packed by our own shrink.py: theorems that the claim does not use are left out. -/
import Derived.Test.YtgobpenmemlieaaDoorVRea
/-
  The walk of sdl.Print.
-/
namespace Go.Proofs.YtgobpenmemlieaaDoor.Lex
open Go.RowKit Go.Proofs.YtgobpenmemlieaaDoorW.PrintWords Go.Proofs.YtgobpenmemlieaaDoorW.PrintLast Go.Proofs.YtgobpenmemlieaaDoorW.PrintMore PSdlBack
set_option linter.unusedVariables false
set_option linter.unusedSimpArgs false
def svcs : List ByteArray := [(⟨#[]⟩ : ByteArray), (⟨#[97, 99, 99, 111, 117, 110, 116]⟩ : ByteArray), (⟨#[105, 110, 118, 101, 110, 116, 111, 114, 121]⟩ : ByteArray), (⟨#[98, 111, 111, 107, 105, 110, 103]⟩ : ByteArray), (⟨#[110, 111, 116, 105, 102, 105, 101, 114]⟩ : ByteArray)]
def svcName (n : Int) : ByteArray := svcs.getD n.toNat ⟨#[]⟩
def pieces (x : S54) : List ByteArray := [x.f0, T1, svcName x.f1, T2, x.f2, T3, x.f3, T4]
def piecesAll : List S54 → List ByteArray
  | [] => []
  | x :: l => pieces x ++ piecesAll l
def printed (l : List S54) : ByteArray := ⟨(Lib.join (List.map (fun x => x.data.toList) (T0 :: piecesAll l ++ [T5])) (⟨#[32]⟩ : ByteArray).data.toList).toArray⟩
theorem str_at {w : World} {A : Option Addr} {n : Nat} {xs : List ByteArray} (h : Kd.C Kd.string w A n xs) (i : Int) (h0 : 0 ≤ i) (h1 : i < n) : ∃ ad, A = some ad ∧ w.cell? (ad.add i.toNat) = some (.string (xs.getD i.toNat ⟨#[]⟩)) := by
  obtain ⟨ad, c, e, _, hK, hc0⟩ := Kd.C_get h (⟨#[]⟩ : ByteArray) i h0 h1
  have hc : ∀ j u, c[j]? = some u → w.cell? (ad.add (i.toNat * 1 + j)) = some u := hc0
  obtain rfl : c = [.string (xs.getD i.toNat ⟨#[]⟩)] := hK
  exact ⟨ad, e, by have hq := hc 0 _ rfl; rwa [Nat.mul_one, Nat.add_zero] at hq⟩
theorem row_at {w : World} {base : Nat} {ok : Nat → Prop} {v : Value} {ws : List ByteArray} (h : Kd.R Kd.string 9 w base ok v ws) (hp : 0 < ws.length) :
    ∃ g c, v = .slice (some ⟨g, 0, none⟩) ws.length c ∧ ws.length ≤ c ∧ g < w.heap.size ∧ ∀ (j : Nat) x, ws[j]? = some x → w.cell? ⟨g, 0 + j, none⟩ = some (.string x) := by
  obtain ⟨A, c, hv, hc, hC⟩ := Kd.R_reads h
  obtain ⟨-, inner, ⟨-, h2⟩, hr⟩ := h
  rcases h2 with ⟨e, -⟩ | ⟨g, cap, cur, e, -, hh, -⟩
  · rw [hv] at e
    injection e with _ e2 _
    omega
  · rw [hv] at e
    injection e with e1 e2 e3
    subst e1
    refine ⟨g, c, hv, hc, blk_lt hh, fun j x hj => ?_⟩
    obtain ⟨hlt, hx⟩ := List.getElem?_eq_some_iff.mp hj
    obtain ⟨ad, ea, hcell⟩ := str_at hC (j : Int) (by omega) (by omega)
    cases ea
    rw [Int.toNat_natCast] at hcell
    have hx2 : ws.getD j ⟨#[]⟩ = x := by rw [List.getD_eq_getElem?_getD, hj]; rfl
    rw [hx2] at hcell
    rw [show (Addr.add ⟨g, 0, none⟩ j) = (⟨g, 0 + j, none⟩ : Addr) from by cases j <;> simp [Addr.add]] at hcell
    exact hcell
set_option maxHeartbeats 8000000 in
set_option maxRecDepth 100000 in
theorem Print_bad (A : Option Addr) (c n : Nat) (w : World) (hM : ∀ w1, Below w.heap.size w w1 → Calls Tryd.prog 36 #[.slice A n c] w1 fun e w' => e = .returned (.bool false) ∧ Below w1.heap.size w1 w') :
    Calls Tryd.prog 18 #[.slice A n c] w fun e w' => e = .returned (.tuple #[.string ⟨#[]⟩, .int .i64 1]) ∧ Below w.heap.size w w' := by
  have HM := Aside0.mk hM
  have HB := Aside0.mk (Below.refl w.heap.size w)
  clear hM
  go_enter Tryd.func18, Tryd.ntmps18
  go_wp2_with (first | (go_at_call 36; refine (HM.out _ (by repeat (first | (with_reducible first | exact HB.out | apply below_alloc | apply pw_below_drewN | apply below_drew1) | exact HB.out))).mono ?_; rintro e wq ⟨rfl, hb2⟩; have n0_ := Aside0.mk (below_step (by repeat (first | (with_reducible first | exact HB.out | apply below_alloc | apply pw_below_drewN | apply below_drew1) | exact HB.out)) hb2); clear HB; have HB := n0_; clear n0_ hb2))
  go_ret2
  exact ⟨rfl, (by repeat (first | (with_reducible first | exact HB.out | apply below_alloc | apply pw_below_drewN | apply below_drew1) | exact HB.out))⟩
set_option maxHeartbeats 8000000 in
set_option maxRecDepth 100000 in
theorem Print_calls (A : Option Addr) (c : Nat) (l : List S54) (w : World) (hl : l.length ≤ 8) (hC : Kd.C k54 w A l.length l) (hserv : ∀ j, j < l.length → isServ (rd_T54 l j).f1 = true)
    (hM : ∀ w1, Below w.heap.size w w1 → Calls Tryd.prog 36 #[.slice A l.length c] w1 fun e w' => e = .returned (.bool true) ∧ Below w1.heap.size w1 w') (hlen : (printed l).size ≤ 100000) :
    Calls Tryd.prog 18 #[.slice A l.length c] w fun e w' => e = .returned (.tuple #[.string (printed l), .int .i64 0]) ∧ Below w.heap.size w w' := by
  have HM := Aside0.mk hM
  have HC := Aside0.mk hC
  have HSV := Aside0.mk hserv
  have HB := Aside0.mk (Below.refl w.heap.size w)
  have hjn : (Lib.join (List.map (fun x => x.data.toList) (T0 :: piecesAll l ++ [T5])) (⟨#[32]⟩ : ByteArray).data.toList).length ≤ 140737488355328 := Nat.le_trans (show _ ≤ 100000 from hlen) (by decide)
  have hpj : (⟨(Lib.join (List.map (fun x => x.data.toList) (T0 :: piecesAll l ++ [T5])) (⟨#[32]⟩ : ByteArray).data.toList).toArray⟩ : ByteArray) = printed l := by unfold printed; with_reducible rfl
  have HJN := Aside0.mk hjn
  have HPJ := Aside0.mk hpj
  clear hM hC hserv hlen hjn hpj
  go_enter Tryd.func18, Tryd.ntmps18
  go_wp2_with (first | (go_at_call 36; refine (HM.out _ (by repeat (first | (with_reducible first | exact HB.out | apply below_alloc | apply pw_below_drewN | apply below_drew1) | exact HB.out))).mono ?_; rintro e wq ⟨rfl, hb2⟩; have n0_ := Aside0.mk (below_step (by repeat (first | (with_reducible first | exact HB.out | apply below_alloc | apply pw_below_drewN | apply below_drew1) | exact HB.out)) hb2); clear HB; have HB := n0_; clear n0_ hb2) | ((with_reducible refine gate_dst (N := 10) rfl ?_); refine Kd.R_lit Kd.string _ 9 ?hg (N := 10) ?hd (xs := ([(⟨#[116, 121, 112, 101, 32, 77, 117, 116, 97, 116, 105, 111, 110, 32, 123]⟩ : ByteArray)] : List ByteArray)) (inner := [.string (⟨#[116, 121, 112, 101, 32, 77, 117, 116, 97, 116, 105, 111, 110, 32, 123]⟩ : ByteArray)]) (ok := fun _ => True) (okp := fun _ => False) ?hr ?hp (fun _ hk => hk.elim) trivial (Below.refl _ _) (Nat.le_refl _) (by simp) ?_; (case hd => rfl); (case hg => rfl); (case hr => first | (go_simp; done) | (go_simp; rfl)); (case hp => exact (Reps.one (show Kd.M Kd.string _ _ _ ((⟨#[116, 121, 112, 101, 32, 77, 117, 116, 97, 116, 105, 111, 110, 32, 123]⟩ : ByteArray) : ByteArray) [.string ((⟨#[116, 121, 112, 101, 32, 77, 117, 116, 97, 116, 105, 111, 110, 32, 123]⟩ : ByteArray))] from rfl) (Reps.none _ _))); intro v5 w7 ho hb hg_ hnew_; clear hg_ hnew_; have n0_ := Aside0.mk (Kd.R_lower ho (below_size (by repeat (first | (with_reducible first | exact HB.out | apply below_alloc | apply pw_below_drewN | apply below_drew1) | exact HB.out)))); have n1_ := Aside0.mk (below_step (by repeat (first | (with_reducible first | exact HB.out | apply below_alloc | apply pw_below_drewN | apply below_drew1) | exact HB.out)) hb); clear HB; have HO := n0_; have HB := n1_; clear n0_ n1_ ho hb))
  have hj0 : ([(⟨#[116, 121, 112, 101, 32, 77, 117, 116, 97, 116, 105, 111, 110, 32, 123]⟩ : ByteArray)] : List ByteArray) ++ piecesAll (l.drop 0) = T0 :: piecesAll l := rfl
  have HJ := Aside0.mk hj0
  clear hj0
  go_loopg [4, 13] l.length (fun kq v4 v13 w' => ∃ (j : Nat) (ws : List ByteArray), v13 = .int .i64 j ∧ j ≤ l.length ∧ j + kq = l.length ∧ ws.length ≤ 1 + 8 * j ∧ Aside0 (ws ++ piecesAll (l.drop j) = T0 :: piecesAll l) ∧ Aside0 (Kd.R Kd.string 9 w' w.heap.size (fun _ => True) v4 ws) ∧ Aside0 (Below w.heap.size w w'))
  case atStart => exact ⟨0, _, rfl, by omega, by omega, (by first | exact Nat.le_refl _ | simp), HJ, ⟨(by (with_reducible repeat (first | apply Kd.R_alloc | apply Kd.R_drewN | apply Kd.R_drew)); exact HO.out)⟩, ⟨(by repeat (first | (with_reducible first | exact HB.out | apply below_alloc | apply pw_below_drewN | apply below_drew1) | exact HB.out))⟩⟩
  case round =>
    clear HB HO HJ
    obtain ⟨j, ws, rfl, hj, hk, hws, HE, HO, HB⟩ := hrel
    by_cases hjl : j < l.length
    · have c1 : decide ((j : Int) < (l.length : Int)) = true := decide_eq_true (by omega)
      obtain ⟨k1, rfl⟩ : ∃ k1, gk = k1 + 1 := ⟨gk - 1, by omega⟩
      obtain ⟨ad, e, hx0_, hx1_, hx2_, hx3_⟩ := at_T54 HC.out (j : Int) (by omega) (by omega)
      cases e
      replace hx0_ := pw_cell_below HB.out hx0_
      replace hx1_ := pw_cell_below HB.out hx1_
      replace hx2_ := pw_cell_below HB.out hx2_
      replace hx3_ := pw_cell_below HB.out hx3_
      rw [Int.toNat_natCast] at hx0_ hx1_ hx2_ hx3_
      have hd : l.drop j = rd_T54 l j :: l.drop (j + 1) := by
        rw [List.drop_eq_getElem_cons hjl]
        congr 1
        unfold rd_T54
        rw [Int.toNat_natCast, List.getD_eq_getElem?_getD, List.getElem?_eq_getElem hjl]
        rfl
      have hsx := HSV.out j hjl
      have hst := HE.out
      rw [hd] at hst
      clear HE hd
      generalize rd_T54 l j = x at hx0_ hx1_ hx2_ hx3_ hst hsx
      have HN : Aside0 ((ws ++ pieces x) ++ piecesAll (l.drop (j + 1)) = T0 :: piecesAll l) := ⟨by rw [List.append_assoc]; exact hst⟩
      clear hst
      have hx0 : 0 ≤ x.f1 := by unfold isServ at hsx; simp at hsx; omega
      have hx4 : x.f1 < 5 := by unfold isServ at hsx; simp at hsx; omega
      have p1 := eq_true (show (0 : Int) ≤ (j : Int) by omega)
      have p2 := eq_true (show (j : Int) < (l.length : Int) by omega)
      have p3 := eq_true hjl
      have p4 := eq_true hx0
      have p5 := eq_true hx4
      have p6 := eq_true (show x.f1.toNat < 5 by omega)
      have p7 : (x.f1 < (svcs.length : Int)) = True := eq_true hx4
      have p8 : (x.f1.toNat < svcs.length) = True := eq_true (show x.f1.toNat < 5 by omega)
      clear hsx
      go_wp2
      have HM5 : Aside0 (MS wr (wr.alloc (.cells #[.string x.f0, .int .i64 x.f1, .string x.f2, .string x.f3] 54)).drew #[.string x.f0, .int .i64 x.f1, .string x.f2, .string x.f3]) := ⟨MS.drew_ (MS.new wr #[.string x.f0, .int .i64 x.f1, .string x.f2, .string x.f3])⟩
      have n1_ : Aside0 (Below w.heap.size w (wr.alloc (.cells #[.string x.f0, .int .i64 x.f1, .string x.f2, .string x.f3] 54)).drew) := ⟨below_step HB.out HM5.out.1⟩
      have n2_ : Aside0 (Kd.R Kd.string 9 (wr.alloc (.cells #[.string x.f0, .int .i64 x.f1, .string x.f2, .string x.f3] 54)).drew w.heap.size (fun _ => True) u4 ws) := ⟨Kd.R_below HO.out HM5.out.1⟩
      clear HB HO
      have HB := n1_
      have HO := n2_
      clear n1_ n2_
      refine start_ (n := 15) (S := fun w' => w'.cell? ⟨wr.heap.size, 0, none⟩ = some (.string x.f0) ∧ w'.cell? ⟨wr.heap.size, 1, none⟩ = some (.int .i64 x.f1) ∧ w'.cell? ⟨wr.heap.size, 2, none⟩ = some (.string x.f2) ∧ w'.cell? ⟨wr.heap.size, 3, none⟩ = some (.string x.f3)) (ds := [14]) #[false, false, false, false, false, false, false, false, false, false, false, false, false, false, false] (by kernel_rfl) rfl rfl ⟨(blk_cell HM5.out.2 0).trans rfl, (blk_cell HM5.out.2 1).trans rfl, (blk_cell HM5.out.2 2).trans rfl, (blk_cell HM5.out.2 3).trans rfl⟩ (fun hHeld => ?_)
      generalize (wr.alloc (.cells #[.string x.f0, .int .i64 x.f1, .string x.f2, .string x.f3] 54)).drew = w5 at HM5 HB HO hHeld ⊢
      refine pure_ (i := 0) (N := some 17) (v := ?_) (a' := ?_) #[true, false, false, false, false, false, false, false, false, false, false, false, false, false, false] rfl rfl (by kernel_rfl) (fun _ _ _ h => h) (Or.inl ⟨by rfl, ?_⟩) ?_ ?_
      rotate_left
      · intro w'
        go_simp
        with_reducible rfl
      rotate_left
      · simp only [Act.put, List.setIfInBounds_toArray, List.set_cons_zero, List.set_cons_succ, i64_w, i32_w]
        rfl
      refine pure_ (i := 1) (N := some 18) (v := ?_) (a' := ?_) #[true, true, false, false, false, false, false, false, false, false, false, false, false, false, false] rfl rfl (by kernel_rfl) (fun _ _ _ h => h) (Or.inl ⟨by rfl, ?_⟩) ?_ ?_
      rotate_left
      · intro w'
        go_simp
        with_reducible rfl
      rotate_left
      · simp only [Act.put, List.setIfInBounds_toArray, List.set_cons_zero, List.set_cons_succ, i64_w, i32_w]
        rfl
      refine pure_ (i := 4) (N := some 21) (v := ?_) (a' := ?_) #[true, true, false, false, true, false, false, false, false, false, false, false, false, false, false] rfl rfl (by kernel_rfl) (fun _ _ _ h => h) (Or.inl ⟨by rfl, ?_⟩) ?_ ?_
      rotate_left
      · intro w'
        go_simp
        with_reducible rfl
      rotate_left
      · simp only [Act.put, List.setIfInBounds_toArray, List.set_cons_zero, List.set_cons_succ, i64_w, i32_w]
        rfl
      refine pure_ (i := 8) (N := some 25) (v := ?_) (a' := ?_) #[true, true, false, false, true, false, false, false, true, false, false, false, false, false, false] rfl rfl (by kernel_rfl) (fun _ _ _ h => h) (Or.inl ⟨by rfl, ?_⟩) ?_ ?_
      rotate_left
      · intro w'
        go_simp
        with_reducible rfl
      rotate_left
      · simp only [Act.put, List.setIfInBounds_toArray, List.set_cons_zero, List.set_cons_succ, i64_w, i32_w]
        rfl
      refine pure_ (i := 10) (N := some 27) (v := ?_) (a' := ?_) #[true, true, false, false, true, false, false, false, true, false, true, false, false, false, false] rfl rfl (by kernel_rfl) (fun _ _ _ h => h) (Or.inl ⟨by rfl, ?_⟩) ?_ ?_
      rotate_left
      · intro w'
        go_simp
        with_reducible rfl
      rotate_left
      · simp only [Act.put, List.setIfInBounds_toArray, List.set_cons_zero, List.set_cons_succ, i64_w, i32_w]
        rfl
      refine take_ (i := 2) (N := some 19) (v := ?_) (a' := ?_) #[true, true, true, false, true, false, false, false, true, false, true, false, false, false, false] rfl rfl (by kernel_rfl) (fun _ _ _ h => h) (Or.inl ⟨by rfl, ?_⟩) hHeld ?_ ?_
      rotate_left
      · rintro w' ⟨s0, s1, s2, s3⟩
        go_simp
        with_reducible rfl
      rotate_left
      · simp only [Act.put, List.setIfInBounds_toArray, List.set_cons_zero, List.set_cons_succ, i64_w, i32_w]
        rfl
      refine take_ (i := 5) (N := some 22) (v := ?_) (a' := ?_) #[true, true, true, false, true, true, false, false, true, false, true, false, false, false, false] rfl rfl (by kernel_rfl) (fun _ _ _ h => h) (Or.inl ⟨by rfl, ?_⟩) hHeld ?_ ?_
      rotate_left
      · rintro w' ⟨s0, s1, s2, s3⟩
        go_simp
        with_reducible rfl
      rotate_left
      · simp only [Act.put, List.setIfInBounds_toArray, List.set_cons_zero, List.set_cons_succ, i64_w, i32_w]
        rfl
      refine take_ (i := 9) (N := some 26) (v := ?_) (a' := ?_) #[true, true, true, false, true, true, false, false, true, true, true, false, false, false, false] rfl rfl (by kernel_rfl) (fun _ _ _ h => h) (Or.inl ⟨by rfl, ?_⟩) hHeld ?_ ?_
      rotate_left
      · rintro w' ⟨s0, s1, s2, s3⟩
        go_simp
        with_reducible rfl
      rotate_left
      · simp only [Act.put, List.setIfInBounds_toArray, List.set_cons_zero, List.set_cons_succ, i64_w, i32_w]
        rfl
      refine take_ (i := 11) (N := some 28) (v := ?_) (a' := ?_) #[true, true, true, false, true, true, false, false, true, true, true, true, false, false, false] rfl rfl (by kernel_rfl) (fun _ _ _ h => h) (Or.inl ⟨by rfl, ?_⟩) hHeld ?_ ?_
      rotate_left
      · rintro w' ⟨s0, s1, s2, s3⟩
        go_simp
        with_reducible rfl
      rotate_left
      · simp only [Act.put, List.setIfInBounds_toArray, List.set_cons_zero, List.set_cons_succ, i64_w, i32_w]
        rfl
      refine one_ (i := 3) (N := some 20) #[true, true, true, true, true, true, false, false, true, true, true, true, false, false, false] rfl rfl (by kernel_rfl) (by decide) (fun K hK => ?_)
      refine goes_ Tryd.func37 (by kernel_rfl) rfl #[] (by rfl) rfl rfl (by first | (simp only [List.map_toArray, List.map_cons, List.map_nil]; done) | rfl | simp) ?_
      with_reducible refine (sdl_Services.calls svcs _ rfl).mono ?_
      rintro e wq ⟨v20, rfl, ho0, hb⟩
      refine ⟨_, rfl, ?_⟩
      have n0_ : Aside0 (MS wr _ #[.string x.f0, .int .i64 x.f1, .string x.f2, .string x.f3]) := ⟨MS.call HM5.out hb⟩
      have n1_ := Aside0.mk (below_step HB.out hb)
      have n2_ := Aside0.mk (Kd.R_below HO.out hb)
      clear HM5 HB HO
      have HM5 := n0_
      have HB := n1_
      have HO := n2_
      clear n0_ n1_ n2_
      obtain ⟨As, cs_, rfl, hcs, hCs⟩ := Kd.R_reads ho0
      obtain ⟨adS, eS, hsv⟩ := str_at hCs x.f1 hx0 hx4
      cases eS
      have hsv2 : wq.cell? (adS.add x.f1.toNat) = some (.string (svcName x.f1)) := hsv
      clear ho0 hCs hsv
      refine hK.out _ _ ⟨(blk_cell HM5.out.2 0).trans rfl, (blk_cell HM5.out.2 1).trans rfl, (blk_cell HM5.out.2 2).trans rfl, (blk_cell HM5.out.2 3).trans rfl⟩ (fun hHeld => ?_)
      clear hK K
      refine norm_ (a' := ?_) ?_ ?_
      rotate_left
      · show Act.put _ (some 20) _ = _
        simp only [Act.put, List.setIfInBounds_toArray, List.set_cons_zero, List.set_cons_succ, i64_w, i32_w]
        rfl
      refine pure_ (i := 6) (N := some 23) (v := ?_) (a' := ?_) #[true, true, true, true, true, true, true, false, true, true, true, true, false, false, false] rfl rfl (by kernel_rfl) (fun _ _ _ h => h) (Or.inl ⟨by rfl, ?_⟩) ?_ ?_
      rotate_left
      · intro w'
        go_simp
        with_reducible rfl
      rotate_left
      · simp only [Act.put, List.setIfInBounds_toArray, List.set_cons_zero, List.set_cons_succ, i64_w, i32_w]
        rfl
      refine one_ (i := 7) (N := some 24) #[true, true, true, true, true, true, true, true, true, true, true, true, false, false, false] rfl rfl (by kernel_rfl) (by decide) (fun K hK => ?_)
      refine value_ (w1 := ?_) (v := ?_) (by rfl) rfl ?_ ?_
      rotate_left 2
      · go_simp
        constructor
        · rfl
        · rfl
      refine hK.out _ _ ⟨(blk_cell HM5.out.2 0).trans rfl, (blk_cell HM5.out.2 1).trans rfl, (blk_cell HM5.out.2 2).trans rfl, (blk_cell HM5.out.2 3).trans rfl⟩ (fun hHeld => ?_)
      clear hK K
      refine norm_ (a' := ?_) ?_ ?_
      rotate_left
      · show Act.put _ (some 24) _ = _
        simp only [Act.put, List.setIfInBounds_toArray, List.set_cons_zero, List.set_cons_succ, i64_w, i32_w]
        rfl
      refine one_ (i := 12) (N := some 29) #[true, true, true, true, true, true, true, true, true, true, true, true, true, false, false] rfl rfl (by kernel_rfl) (by decide) (fun K hK => ?_)
      refine Kd.R_lit_step Kd.string _ 9 ?hg (N := 29) ?hd (xs := ([x.f0, (⟨#[40, 32, 119, 104, 111, 32, 58, 32, 83, 116, 114, 105, 110, 103, 32, 33, 32, 110, 32, 58, 32, 73, 110, 116, 32, 33, 32, 41, 32, 58, 32, 83, 116, 101, 112, 32, 64, 32, 115, 97, 103, 97, 32, 40, 32, 115, 101, 114, 118, 105, 99, 101, 32, 58]⟩ : ByteArray), svcName x.f1, (⟨#[100, 111, 32, 58]⟩ : ByteArray), x.f2, (⟨#[117, 110, 100, 111, 32, 58]⟩ : ByteArray), x.f3, (⟨#[41]⟩ : ByteArray)] : List ByteArray)) (inner := [.string (x.f0), .string ((⟨#[40, 32, 119, 104, 111, 32, 58, 32, 83, 116, 114, 105, 110, 103, 32, 33, 32, 110, 32, 58, 32, 73, 110, 116, 32, 33, 32, 41, 32, 58, 32, 83, 116, 101, 112, 32, 64, 32, 115, 97, 103, 97, 32, 40, 32, 115, 101, 114, 118, 105, 99, 101, 32, 58]⟩ : ByteArray)), .string (svcName x.f1), .string ((⟨#[100, 111, 32, 58]⟩ : ByteArray)), .string (x.f2), .string ((⟨#[117, 110, 100, 111, 32, 58]⟩ : ByteArray)), .string (x.f3), .string ((⟨#[41]⟩ : ByteArray))]) (ok := fun _ => True) (okp := fun _ => False) ?hr ?hp (fun _ hk => hk.elim) ?hf (Below.refl _ _) (Nat.le_refl _) (by simp) ?_; (case hd => rfl); (case hg => rfl); (case hr => first | (go_simp; done) | (go_simp; rfl)); (case hp => exact (Reps.one (show Kd.M Kd.string _ _ _ (x.f0 : ByteArray) [.string (x.f0)] from rfl) (Reps.one (show Kd.M Kd.string _ _ _ ((⟨#[40, 32, 119, 104, 111, 32, 58, 32, 83, 116, 114, 105, 110, 103, 32, 33, 32, 110, 32, 58, 32, 73, 110, 116, 32, 33, 32, 41, 32, 58, 32, 83, 116, 101, 112, 32, 64, 32, 115, 97, 103, 97, 32, 40, 32, 115, 101, 114, 118, 105, 99, 101, 32, 58]⟩ : ByteArray) : ByteArray) [.string ((⟨#[40, 32, 119, 104, 111, 32, 58, 32, 83, 116, 114, 105, 110, 103, 32, 33, 32, 110, 32, 58, 32, 73, 110, 116, 32, 33, 32, 41, 32, 58, 32, 83, 116, 101, 112, 32, 64, 32, 115, 97, 103, 97, 32, 40, 32, 115, 101, 114, 118, 105, 99, 101, 32, 58]⟩ : ByteArray))] from rfl) (Reps.one (show Kd.M Kd.string _ _ _ (svcName x.f1 : ByteArray) [.string (svcName x.f1)] from rfl) (Reps.one (show Kd.M Kd.string _ _ _ ((⟨#[100, 111, 32, 58]⟩ : ByteArray) : ByteArray) [.string ((⟨#[100, 111, 32, 58]⟩ : ByteArray))] from rfl) (Reps.one (show Kd.M Kd.string _ _ _ (x.f2 : ByteArray) [.string (x.f2)] from rfl) (Reps.one (show Kd.M Kd.string _ _ _ ((⟨#[117, 110, 100, 111, 32, 58]⟩ : ByteArray) : ByteArray) [.string ((⟨#[117, 110, 100, 111, 32, 58]⟩ : ByteArray))] from rfl) (Reps.one (show Kd.M Kd.string _ _ _ (x.f3 : ByteArray) [.string (x.f3)] from rfl) (Reps.one (show Kd.M Kd.string _ _ _ ((⟨#[41]⟩ : ByteArray) : ByteArray) [.string ((⟨#[41]⟩ : ByteArray))] from rfl) (Reps.none _ _)))))))))); (case hf => trivial)
      intro v29 w8 ho0 hb hg_ hnew_
      clear hg_ hnew_
      have n0_ : Aside0 (MS wr _ #[.string x.f0, .int .i64 x.f1, .string x.f2, .string x.f3]) := ⟨MS.call HM5.out hb⟩
      have n1_ := Aside0.mk (below_step HB.out hb)
      have n2_ := Aside0.mk (Kd.R_below HO.out hb)
      clear HM5 HB HO
      have HM5 := n0_
      have HB := n1_
      have HO := n2_
      clear n0_ n1_ n2_
      obtain ⟨Ap, cp, rfl, hcp, hCp⟩ := Kd.R_reads ho0
      clear ho0
      refine hK.out _ _ ⟨(blk_cell HM5.out.2 0).trans rfl, (blk_cell HM5.out.2 1).trans rfl, (blk_cell HM5.out.2 2).trans rfl, (blk_cell HM5.out.2 3).trans rfl⟩ (fun hHeld => ?_)
      clear hK K
      refine norm_ (a' := ?_) ?_ ?_
      rotate_left
      · show Act.put _ (some 29) _ = _
        simp only [Act.put, List.setIfInBounds_toArray, List.set_cons_zero, List.set_cons_succ, i64_w, i32_w]
        rfl
      refine one_ (i := 13) (N := some 30) #[true, true, true, true, true, true, true, true, true, true, true, true, true, true, false] rfl rfl (by kernel_rfl) (by decide) (fun K hK => ?_)
      refine Kd.R_append_rows_step Kd.string (w0 := w) w.heap.size (by rfl) (.tmp 17) (.tmp 29) 22 9 (.string ⟨#[]⟩) 16 rfl Tryd.underlying22 info9 rfl (by decide) (by omega) u4 ws ([x.f0, (⟨#[40, 32, 119, 104, 111, 32, 58, 32, 83, 116, 114, 105, 110, 103, 32, 33, 32, 110, 32, 58, 32, 73, 110, 116, 32, 33, 32, 41, 32, 58, 32, 83, 116, 101, 112, 32, 64, 32, 115, 97, 103, 97, 32, 40, 32, 115, 101, 114, 118, 105, 99, 101, 32, 58]⟩ : ByteArray), svcName x.f1, (⟨#[100, 111, 32, 58]⟩ : ByteArray), x.f2, (⟨#[117, 110, 100, 111, 32, 58]⟩ : ByteArray), x.f3, (⟨#[41]⟩ : ByteArray)] : List ByteArray) Ap 8 cp (fun _ => True) (fun _ => False) rfl rfl HO.out hCp (fun _ _ h_ => h_) (fun _ hk => hk.elim) (fun _ _ => trivial) HB.out (below_size HB.out) (by omega) ?_
      intro v30 w9 ho0 hb hg_ hat_
      have n0_ : Aside0 (w9.heap[wr.heap.size]? = some (.cells #[.string x.f0, .int .i64 x.f1, .string x.f2, .string x.f3] 54 (0, 0))) := ⟨blk_grown HM5.out.2 hg_ (Kd.R_ne HO.out HM5.out.2 (by decide))⟩
      have n1_ := Aside0.mk hb
      have n2_ := Aside0.mk ho0
      clear HM5 HB HO hg_ hat_ hb ho0
      have HM6 := n0_
      have HB := n1_
      have HO := n2_
      clear n0_ n1_ n2_
      refine hK.out _ _ ⟨(blk_cell HM6.out 0).trans rfl, (blk_cell HM6.out 1).trans rfl, (blk_cell HM6.out 2).trans rfl, (blk_cell HM6.out 3).trans rfl⟩ (fun hHeld => ?_)
      clear hK K
      refine norm_ (a' := ?_) ?_ ?_
      rotate_left
      · show Act.put _ (some 30) _ = _
        simp only [Act.put, List.setIfInBounds_toArray, List.set_cons_zero, List.set_cons_succ, i64_w, i32_w]
        rfl
      refine pure_ (i := 14) (N := some 4) (v := ?_) (a' := ?_) #[true, true, true, true, true, true, true, true, true, true, true, true, true, true, true] rfl rfl (by kernel_rfl) (fun _ _ _ h => h) (Or.inl ⟨by rfl, ?_⟩) ?_ ?_
      rotate_left
      · intro w'
        go_simp
        with_reducible rfl
      rotate_left
      · simp only [Act.put, List.setIfInBounds_toArray, List.set_cons_zero, List.set_cons_succ, i64_w, i32_w]
        rfl
      refine done_ (by kernel_rfl) ?_
      go_wp2
      go_roundg k1
      case measure => omega
      case rel => exact ⟨j + 1, _, (by first | rfl | (simp only [Int.natCast_add]; done) | (simp only [Int.natCast_add]; rfl)), by omega, by omega, by (have hp8 : (pieces x).length = 8 := rfl; simp only [List.length_append]; omega), HN, ⟨HO.out⟩, ⟨HB.out⟩⟩
    · have hst := HE.out
      rw [List.drop_eq_nil_of_le (by omega)] at hst
      have hws2 : ws = T0 :: piecesAll l := by rw [← hst]; exact (List.append_nil ws).symm
      have HW2 := Aside0.mk hws2
      have HL9 : Aside0 ((ws ++ [T5]).length = ws.length + 1) := ⟨by simp⟩
      have HJ2 : Aside0 ((⟨(Lib.join (List.map (fun x => x.data.toList) (ws ++ [T5])) (⟨#[32]⟩ : ByteArray).data.toList).toArray⟩ : ByteArray) = printed l) := ⟨by rw [hws2]; exact HPJ.out⟩
      have HN2 : Aside0 ((Lib.join (List.map (fun x => x.data.toList) (ws ++ [T5])) (⟨#[32]⟩ : ByteArray).data.toList).length ≤ 140737488355328) := ⟨by rw [hws2]; exact HJN.out⟩
      clear HE hst hws2 HPJ HJN
      have c1 : decide ((j : Int) < (l.length : Int)) = false := decide_eq_false (by omega)
      go_wp2_with (first | ((with_reducible refine gate_builtin (b := .append) (xs := #[.tmp 32, .tmp 33]) rfl ?_); at_builtin; refine Kd.R_append Kd.string (w0 := w) w.heap.size rfl (.tmp 32) (.tmp 33) 22 9 (.string ⟨#[]⟩) 16 rfl Tryd.underlying22 info9 rfl (by decide) (by omega) u4 ws T5 [.string T5] (fun _ => True) (fun _ => False) rfl ?aX ?aP (fun _ hk => hk.elim) ?aF ?aO ?aB ?aS ?aL ?_; (case aX => rfl); (case aP => exact (show Kd.M Kd.string _ _ _ (T5 : ByteArray) [.string (T5)] from rfl)); (case aB => exact (by repeat (first | (with_reducible first | exact HB.out | apply below_alloc | apply pw_below_drewN | apply below_drew1) | exact HB.out))); (case aF => exact (fun _ _ => trivial)); (case aO => exact (by (with_reducible repeat (first | apply Kd.R_alloc | apply Kd.R_drewN | apply Kd.R_drew)); exact HO.out)); (case aS => exact (below_size (by repeat (first | (with_reducible first | exact HB.out | apply below_alloc | apply pw_below_drewN | apply below_drew1) | exact HB.out)))); (case aL => omega); intro v34 w29 ho hb hg hat; have n0_ := Aside0.mk (hb); clear HB HO; have HB := n0_; clear n0_; obtain ⟨rg, rc, rfl, hrc, hrg, hcells⟩ := row_at ho (by simp); clear ho hb hg hat) | (go_at_call 38; rw [← HL9.out]; refine (Tryd.strings_Join rg 0 rc (ws ++ [T5]) ⟨#[32]⟩ _ hcells hrg (by simp only [List.length_append, List.length_singleton]; omega) hrc HN2.out).mono ?_; rintro e w30 ⟨rfl, hb⟩; rw [HJ2.out]; have n0_ := Aside0.mk (below_step HB.out hb); clear HB; have HB := n0_; clear n0_ hb))
      go_ret2
      exact ⟨rfl, (by repeat (first | (with_reducible first | exact HB.out | apply below_alloc | apply pw_below_drewN | apply below_drew1) | exact HB.out))⟩
end Go.Proofs.YtgobpenmemlieaaDoor.Lex
