/- follow of an order's state; slices of steps. -/
import Derived.Test.YtpegckmagiaggaaFBase
import Derived.Test.YtpegckmagiaggaaFOrdZ
import Derived.Test.YtpegckmagiaggaaFNetSW
set_option linter.unusedSimpArgs false
set_option linter.unusedVariables false
namespace Go.Proofs.Ytpegckmagiaggaa
open Go.RowKit
def cellsP (c : Int × Int) : List Value := [.int .i64 c.1, .int .i64 c.2]
theorem cellsP_len (cs : List (Int × Int)) : (cs.flatMap cellsP).length = cs.length * 2 := by
  induction cs with
  | nil => rfl
  | cons x l ih => rw [List.flatMap_cons, List.length_append, ih, List.length_cons]; simp [cellsP]; omega
theorem cellsP_get {cs : List (Int × Int)} {i : Nat} {c : Int × Int} (h : cs[i]? = some c) : (cs.flatMap cellsP)[2 * i]? = some (.int .i64 c.1) ∧ (cs.flatMap cellsP)[2 * i + 1]? = some (.int .i64 c.2) := by
  induction cs generalizing i with
  | nil => simp at h
  | cons x l ih =>
    cases i with
    | zero => simp at h; subst h; exact ⟨rfl, rfl⟩
    | succ i =>
      have h2 := ih (i := i) (by simpa using h)
      have e1 : 2 * (i + 1) = 2 * i + 1 + 1 := by omega
      rw [List.flatMap_cons, e1]
      exact h2
structure StepsS (w : World) (v : Value) (os : List (Int × Int)) : Prop where
  row : Row w 2 v os.length (os.flatMap cellsP)
theorem StepsS.ext {w w' : World} {v : Value} {os : List (Int × Int)} (h : StepsS w v os) (e : Ext w w') : StepsS w' v os := ⟨h.row.ext e⟩
theorem StepsS.val {w : World} {v : Value} {os : List (Int × Int)} (h : StepsS w v os) : ∃ a cap, v = .slice a os.length cap ∧ os.length ≤ cap ∧ cap ≤ 9223372036854775807 := by
  obtain ⟨a, cap, hv, h1, h2, _⟩ := h.row.val
  exact ⟨a, cap, hv, h1, h2⟩
theorem StepsS.get {w : World} {a : Option Addr} {n cap : Nat} {os : List (Int × Int)} (h : StepsS w (.slice a n cap) os) {i : Nat} (hi : i < os.length) :
    ∃ b o x y, a = some ⟨b, o, none⟩ ∧ os[i]? = some (x, y) ∧ w.cell? ⟨b, o + i * 2, none⟩ = some (.int .i64 x) ∧ w.cell? ⟨b, o + i * 2 + 1, none⟩ = some (.int .i64 y) := by
  obtain ⟨a', cap', hv, _, _, h3⟩ := h.row.val
  cases hv
  obtain ⟨b, o, ha, hc⟩ := h3 (by rw [cellsP_len]; omega)
  have e1 := List.getElem?_eq_getElem hi
  obtain ⟨g1, g2⟩ := cellsP_get e1
  have c1 := hc _ _ g1
  have c2 := hc _ _ g2
  rw [Nat.mul_comm] at c1
  rw [Nat.mul_comm, ← Nat.add_assoc] at c2
  exact ⟨b, o, _, _, ha, e1, c1, c2⟩
set_option maxRecDepth 100000 in
set_option maxHeartbeats 4000000 in
theorem follow_any {s : Nat} {A op : List Int} {cs : List (Int × Value)} {ls : List (List Int)} {nx : Int} (hal : A.length = 100) (w : World) (hS : OrdS w s A op cs ls nx) (hlen : ls.length ≤ 1000) (hrk : ∀ l ∈ ls, l.length ≤ 500) (hnx0 : 0 ≤ nx) (hnx1 : nx ≤ 2000) (ea eb : Int) (ha : ea ∈ cs.map (·.1)) (hb : eb ∈ cs.map (·.1)) (hab : ea < eb) :
    Calls Try.prog 140 #[.pointer (some ⟨s, 0, none⟩), .agg #[.int .i64 ea, .int .i64 eb]] w fun e w' => ∃ cs', e = .returned (.bool true) ∧ w.grownBy w' (some s) ∧ OrdS w' s A op cs' (labStep op (cs.map (·.1)) ls (ea, eb)) (nx + 1) ∧ cs'.map (·.1) = numStep (cs.map (·.1)) nx (ea, eb) := by
  have HPL := Lib.hid (fun (wx : World) (hS : OrdS wx s A op cs ls nx) (x : Int) => place_any hal wx hS hlen x)
  obtain ⟨i, hi, hi2⟩ := find_nat ha
  obtain ⟨j, hj, hj2⟩ := find_nat hb
  have hcl : cs.length = ls.length := by obtain ⟨_, _, _, _, _, hL⟩ := hS.has; exact hL.len
  have hil : i < ls.length := by have := (List.getElem?_eq_some_iff.1 hi2).1; rw [List.length_map] at this; omega
  have hjl : j < ls.length := by have := (List.getElem?_eq_some_iff.1 hj2).1; rw [List.length_map] at this; omega
  have HCT := Lib.hid (fun (wx : World) (hS : OrdS wx s A op cs ls nx) => contract_any hal wx hS hlen hrk i j hil hjl hnx0 hnx1)
  have HOS := Lib.hid hS
  have HI := Lib.hid hi; have HJ := Lib.hid hj
  have hab1 : ¬ eb ≤ ea := by omega
  have hi0 : ¬ ((i : Int) < 0) := by omega
  have hj0 : ¬ ((j : Int) < 0) := by omega
  clear hS hrk hi hj hi2 hj2 hcl ha hb hal
  have hH : Held w w [] := Held.new (Ext.refl w) 0
  go_enter Try.func140, Try.ntmps140
  go_upto_region 1 with fail
  have hB : Held w (w.alloc (.cells #[.int .i64 ea, .int .i64 eb] 138)) [aB (w.heap.size) 138 [.int .i64 ea, .int .i64 eb]] := by
    have h := (hH.mores 1).addB 0 #[.int .i64 ea, .int .i64 eb] 138
    exact h
  have hsz : (w.alloc (.cells #[.int .i64 ea, .int .i64 eb] 138)).heap.size = w.heap.size + 1 := by simp
  generalize w.alloc (.cells #[.int .i64 ea, .int .i64 eb] 138) = wn1 at hB hsz ⊢
  replace hH := hB; have HSZwn1 := Lib.hid hsz; clear hB hsz
  obtain ⟨wz, rfl⟩ : ∃ q, q = wn1 := ⟨wn1, rfl⟩
  refine wp_region_steps ?Fa (fun b t wx => Held w wx [aB (w.heap.size) 138 [.int .i64 ea, .int .i64 eb]] ∧ (b 0 = true → t 0 = .pointer (some ⟨s, 0, none⟩)) ∧ (b 1 = true → t 1 = .pointer (some ⟨w.heap.size, 0, none⟩)) ∧ (b 2 = true → t 2 = .int .i64 ea) ∧ (b 3 = true → t 3 = .int .i64 (i : Int)) ∧ (b 4 = true → t 4 = .pointer (some ⟨s, 0, none⟩)) ∧ (b 5 = true → t 5 = .pointer (some ⟨w.heap.size, 1, none⟩)) ∧ (b 6 = true → t 6 = .int .i64 eb) ∧ (b 7 = true → t 7 = .int .i64 (j : Int)) ∧ (b 8 = true → t 8 = t 3) ∧ (b 9 = true → t 9 = t 7)) ?hFa (by kernel_rfl) (by kernel_rfl) ?hJa ?hSa ?hEa
  (case hFa => intro t; simp only [putAll, Act.put, List.setIfInBounds_toArray, List.set_cons_zero, List.set_cons_succ, Nat.reduceAdd, Nat.zero_add]; exact rfl)
  case hJa => exact ⟨hH.grow ((Ext.refl _).drew), fun h => absurd h Bool.false_ne_true, fun h => absurd h Bool.false_ne_true, fun h => absurd h Bool.false_ne_true, fun h => absurd h Bool.false_ne_true, fun h => absurd h Bool.false_ne_true, fun h => absurd h Bool.false_ne_true, fun h => absurd h Bool.false_ne_true, fun h => absurd h Bool.false_ne_true, fun h => absurd h Bool.false_ne_true, fun h => absurd h Bool.false_ne_true⟩
  case hSa => as_aux_lemma =>
   refine AllSteps.cons (j := 1) rfl (fun b t wx hJ hb hd hcl Kc hK => ?_) ?_
   · obtain ⟨hH, v0, v1, v2, v3, v4, v5, v6, v7, v8, v9⟩ := hJ
     go_simp
     refine hK.out _ ?_ _ ?_ ?_; rotate_left 2
     · rfl
     exact ⟨hH, fun _ => rfl, v1, v2, v3, v4, v5, v6, v7, v8, v9⟩
   refine AllSteps.cons (j := 2) rfl (fun b t wx hJ hb hd hcl Kc hK => ?_) ?_
   · obtain ⟨hH, v0, v1, v2, v3, v4, v5, v6, v7, v8, v9⟩ := hJ
     go_simp
     refine hK.out _ ?_ _ ?_ ?_; rotate_left 2
     · rfl
     exact ⟨hH, v0, fun _ => rfl, v2, v3, v4, v5, v6, v7, v8, v9⟩
   refine AllSteps.cons (j := 3) rfl (fun b t wx hJ hb hd hcl Kc hK => ?_) ?_
   · obtain ⟨hH, v0, v1, v2, v3, v4, v5, v6, v7, v8, v9⟩ := hJ
     have d1 := hd.out 1 (by kernel_rfl); have r1 := v1 d1; have q0_0 := hH.cl 0 0 rfl rfl
     go_simp
     refine hK.out _ ?_ _ ?_ ?_; rotate_left 2
     · (try simp only [r1]); rfl
     exact ⟨hH, v0, v1, fun _ => rfl, v3, v4, v5, v6, v7, v8, v9⟩
   refine AllSteps.cons (j := 4) rfl (fun b t wx hJ hb hd hcl Kc hK => ?_) ?_
   · obtain ⟨hH, v0, v1, v2, v3, v4, v5, v6, v7, v8, v9⟩ := hJ
     have d0 := hd.out 0 (by kernel_rfl); have d2 := hd.out 2 (by kernel_rfl)
     have n8 : b 8 = false := Bool.eq_false_iff.2 fun h => absurd (hcl.out 8 3 (by kernel_rfl) (h)) (by rw [hb]; exact Bool.false_ne_true)
     have r0 := v0 d0; have r2 := v2 d2
     go_simp
     go_at_call 136
     refine (HPL.out _ (HOS.out.ext hH.ext) ea).mono ?_; rintro e3 w3 ⟨rfl, h3⟩
     rw [HI.out]
     (try go_simp)
     refine hK.out _ ?_ _ ?_ ?_; rotate_left 2
     · (try simp only [r0, r2]); rfl
     exact ⟨by have hX := hH.grow h3; simpa only [List.set_cons_zero, List.set_cons_succ, updB, updV, blkOf_mk, tup0_mk, partsOf3, Nat.reduceBEq, cond_true, cond_false, hb, d0, d2, n8, r0, r2] using hX, v0, v1, v2, fun _ => rfl, v4, v5, v6, v7, fun h => absurd (show b 8 = true from h) (by rw [n8]; exact Bool.false_ne_true), v9⟩
   refine AllSteps.cons (j := 5) rfl (fun b t wx hJ hb hd hcl Kc hK => ?_) ?_
   · obtain ⟨hH, v0, v1, v2, v3, v4, v5, v6, v7, v8, v9⟩ := hJ
     go_simp
     refine hK.out _ ?_ _ ?_ ?_; rotate_left 2
     · rfl
     exact ⟨hH, v0, v1, v2, v3, fun _ => rfl, v5, v6, v7, v8, v9⟩
   refine AllSteps.cons (j := 6) rfl (fun b t wx hJ hb hd hcl Kc hK => ?_) ?_
   · obtain ⟨hH, v0, v1, v2, v3, v4, v5, v6, v7, v8, v9⟩ := hJ
     go_simp
     refine hK.out _ ?_ _ ?_ ?_; rotate_left 2
     · rfl
     exact ⟨hH, v0, v1, v2, v3, v4, fun _ => rfl, v6, v7, v8, v9⟩
   refine AllSteps.cons (j := 7) rfl (fun b t wx hJ hb hd hcl Kc hK => ?_) ?_
   · obtain ⟨hH, v0, v1, v2, v3, v4, v5, v6, v7, v8, v9⟩ := hJ
     have d5 := hd.out 5 (by kernel_rfl); have r5 := v5 d5; have q0_1 := hH.cl 0 1 rfl rfl
     go_simp
     refine hK.out _ ?_ _ ?_ ?_; rotate_left 2
     · (try simp only [r5]); rfl
     exact ⟨hH, v0, v1, v2, v3, v4, v5, fun _ => rfl, v7, v8, v9⟩
   refine AllSteps.cons (j := 8) rfl (fun b t wx hJ hb hd hcl Kc hK => ?_) ?_
   · obtain ⟨hH, v0, v1, v2, v3, v4, v5, v6, v7, v8, v9⟩ := hJ
     have d3 := hd.out 3 (by kernel_rfl); have d4 := hd.out 4 (by kernel_rfl); have d6 := hd.out 6 (by kernel_rfl)
     have n9 : b 9 = false := Bool.eq_false_iff.2 fun h => absurd (hcl.out 9 7 (by kernel_rfl) (h)) (by rw [hb]; exact Bool.false_ne_true)
     have r3 := v3 d3; have r4 := v4 d4; have r6 := v6 d6
     go_simp
     go_at_call 136
     refine (HPL.out _ (HOS.out.ext hH.ext) eb).mono ?_; rintro e7 w7 ⟨rfl, h7⟩
     rw [HJ.out]
     (try go_simp)
     refine hK.out _ ?_ _ ?_ ?_; rotate_left 2
     · (try simp only [r3, r4, r6]); rfl
     exact ⟨by have hX := hH.grow h7; simpa only [List.set_cons_zero, List.set_cons_succ, updB, updV, blkOf_mk, tup0_mk, partsOf3, Nat.reduceBEq, cond_true, cond_false, hb, d3, d4, d6, n9, r3, r4, r6] using hX, v0, v1, v2, v3, v4, v5, v6, fun _ => rfl, v8, fun h => absurd (show b 9 = true from h) (by rw [n9]; exact Bool.false_ne_true)⟩
   refine AllSteps.cons (j := 9) rfl (fun b t wx hJ hb hd hcl Kc hK => ?_) ?_
   · obtain ⟨hH, v0, v1, v2, v3, v4, v5, v6, v7, v8, v9⟩ := hJ
     have d0 := hd.out 0 (by kernel_rfl); have d1 := hd.out 1 (by kernel_rfl); have d2 := hd.out 2 (by kernel_rfl); have d3 := hd.out 3 (by kernel_rfl); have d7 := hd.out 7 (by kernel_rfl); have r0 := v0 d0; have r1 := v1 d1; have r2 := v2 d2; have r3 := v3 d3; have r7 := v7 d7
     go_simp
     refine hK.out _ ?_ _ ?_ ?_; rotate_left 2
     · (try simp only [r0, r1, r2, r3, r7]); rfl
     exact ⟨hH, v0, v1, v2, v3, v4, v5, v6, v7, fun _ => (by first | rfl | exact r3.symm), v9⟩
   refine AllSteps.cons (j := 10) rfl (fun b t wx hJ hb hd hcl Kc hK => ?_) ?_
   · obtain ⟨hH, v0, v1, v2, v3, v4, v5, v6, v7, v8, v9⟩ := hJ
     have d0 := hd.out 0 (by kernel_rfl); have d1 := hd.out 1 (by kernel_rfl); have d2 := hd.out 2 (by kernel_rfl); have d3 := hd.out 3 (by kernel_rfl); have d4 := hd.out 4 (by kernel_rfl); have d5 := hd.out 5 (by kernel_rfl); have d6 := hd.out 6 (by kernel_rfl); have d7 := hd.out 7 (by kernel_rfl); have d8 := hd.out 8 (by kernel_rfl); have r0 := v0 d0; have r1 := v1 d1; have r2 := v2 d2; have r3 := v3 d3; have r4 := v4 d4; have r5 := v5 d5; have r6 := v6 d6; have r7 := v7 d7; have r8 := v8 d8
     go_simp
     refine hK.out _ ?_ _ ?_ ?_; rotate_left 2
     · (try simp only [r0, r1, r2, r3, r4, r5, r6, r7, r8]); rfl
     exact ⟨hH, v0, v1, v2, v3, v4, v5, v6, v7, v8, fun _ => (by first | rfl | exact r7.symm)⟩
   exact AllSteps.nil
  case hEa =>
    intro b t wa hJ hall
    obtain ⟨hHa, v0, v1, v2, v3, v4, v5, v6, v7, v8, v9⟩ := hJ
    have a0 := hall 0 (by decide); have a1 := hall 1 (by decide); have a2 := hall 2 (by decide); have a3 := hall 3 (by decide); have a4 := hall 4 (by decide); have a5 := hall 5 (by decide); have a6 := hall 6 (by decide); have a7 := hall 7 (by decide); have a8 := hall 8 (by decide); have a9 := hall 9 (by decide)
    (try simp only [a0, a1, a2, a3, a4, a5, a6, a7, a8, a9, cond_true] at hHa)
    replace v0 := v0 a0; replace v1 := v1 a1; replace v2 := v2 a2; replace v3 := v3 a3; replace v4 := v4 a4; replace v5 := v5 a5; replace v6 := v6 a6; replace v7 := v7 a7; replace v8 := v8 a8; replace v9 := v9 a9
    clear hall a0 a1 a2 a3 a4 a5 a6 a7 a8 a9
    generalize t 9 = x9 at hHa v9 ⊢; generalize t 8 = x8 at hHa v8 ⊢; generalize t 7 = x7 at hHa v7 v9 ⊢; generalize t 6 = x6 at hHa v6 ⊢; generalize t 5 = x5 at hHa v5 ⊢; generalize t 4 = x4 at hHa v4 ⊢; generalize t 3 = x3 at hHa v3 v8 ⊢; generalize t 2 = x2 at hHa v2 ⊢; generalize t 1 = x1 at hHa v1 ⊢; generalize t 0 = x0 at hHa v0 ⊢; subst v0; subst v1; subst v2; subst v3; subst v4; subst v5; subst v6; subst v7; subst v8; subst v9
    clear b
    replace hH := hHa; clear hHa
    replace hH : Held w wa [aB (w.heap.size) 138 [.int .i64 ea, .int .i64 eb]] := hH
    have q0_0 := hH.cl 0 0 rfl rfl; have q0_1 := hH.cl 0 1 rfl rfl; have l0_ := hH.bl 0 rfl
    go_wp2_with fail
    clear q0_0 q0_1 l0_
    refine (HCT.out _ (HOS.out.ext hH.ext)).mono ?_; rintro e5 w5 ⟨na, nb, u, rfl, _, _, g5, hS5⟩
    have HE := Lib.hid hH.ext; clear hH
    go_wp2
    go_ret
    refine ⟨drop2 cs i j ++ [(nx, u)], rfl, grownBy_trans (HE.out.gr (some s)) g5, ?_, ?_⟩
    · unfold labStep; show OrdS _ s A op _ (drop2 ls (findL (cs.map (·.1)) ea).toNat (findL (cs.map (·.1)) eb).toNat ++ [resL op ls (findL (cs.map (·.1)) ea).toNat (findL (cs.map (·.1)) eb).toNat]) _; rw [HI.out, HJ.out]; exact hS5
    · unfold numStep; show _ = drop2 (cs.map (·.1)) (findL (cs.map (·.1)) ea).toNat (findL (cs.map (·.1)) eb).toNat ++ [nx]; rw [HI.out, HJ.out, List.map_append, ← drop2_map]; rfl
end Go.Proofs.Ytpegckmagiaggaa
