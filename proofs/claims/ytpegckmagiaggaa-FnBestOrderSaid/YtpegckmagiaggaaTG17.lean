/- Texts of one kind, merged by program. -/
import Derived.Test.YtpegckmagiaggaaTOrdZ
import Derived.Test.YtpegckmagiaggaaTG15
/- follow of an order's state; slices of steps. -/
set_option linter.unusedSimpArgs false
set_option linter.unusedVariables false
namespace Go.Proofs.Ytpegckmagiaggaa
open Go.RowKit
def cellsP (c : Int × Int) : List Value := [.int .i64 c.1, .int .i64 c.2]
theorem cellsP_len (cs : List (Int × Int)) : (cs.flatMap cellsP).length = cs.length * 2 := by
  induction cs with
  | nil => rfl
  | cons x l ih => rw [List.flatMap_cons, List.length_append, ih, List.length_cons]; simp [cellsP]; omega
theorem cellsP_get {cs : List (Int × Int)} {i : Nat} {c : Int × Int} (h : cs[i]? = some c) : (cs.flatMap cellsP)[2 * i]? = some (.int .i64 c.1) ∧ (cs.flatMap cellsP)[2 * i + 1]? = some (.int .i64 c.2) := by
  induction cs generalizing i with
  | nil => simp at h
  | cons x l ih =>
    cases i with
    | zero => simp at h; subst h; exact ⟨rfl, rfl⟩
    | succ i =>
      have h2 := ih (i := i) (by simpa using h)
      have e1 : 2 * (i + 1) = 2 * i + 1 + 1 := by omega
      rw [List.flatMap_cons, e1]
      exact h2
structure StepsS (w : World) (v : Value) (os : List (Int × Int)) : Prop where
  row : Row w 2 v os.length (os.flatMap cellsP)
theorem StepsS.ext {w w' : World} {v : Value} {os : List (Int × Int)} (h : StepsS w v os) (e : Ext w w') : StepsS w' v os := ⟨h.row.ext e⟩
theorem StepsS.val {w : World} {v : Value} {os : List (Int × Int)} (h : StepsS w v os) : ∃ a cap, v = .slice a os.length cap ∧ os.length ≤ cap ∧ cap ≤ 9223372036854775807 := by
  obtain ⟨a, cap, hv, h1, h2, _⟩ := h.row.val
  exact ⟨a, cap, hv, h1, h2⟩
theorem StepsS.get {w : World} {a : Option Addr} {n cap : Nat} {os : List (Int × Int)} (h : StepsS w (.slice a n cap) os) {i : Nat} (hi : i < os.length) :
    ∃ b o x y, a = some ⟨b, o, none⟩ ∧ os[i]? = some (x, y) ∧ w.cell? ⟨b, o + i * 2, none⟩ = some (.int .i64 x) ∧ w.cell? ⟨b, o + i * 2 + 1, none⟩ = some (.int .i64 y) := by
  obtain ⟨a', cap', hv, _, _, h3⟩ := h.row.val
  cases hv
  obtain ⟨b, o, ha, hc⟩ := h3 (by rw [cellsP_len]; omega)
  have e1 := List.getElem?_eq_getElem hi
  obtain ⟨g1, g2⟩ := cellsP_get e1
  have c1 := hc _ _ g1
  have c2 := hc _ _ g2
  rw [Nat.mul_comm] at c1
  rw [Nat.mul_comm, ← Nat.add_assoc] at c2
  exact ⟨b, o, _, _, ha, e1, c1, c2⟩
set_option maxRecDepth 100000 in
set_option maxHeartbeats 4000000 in
theorem follow_any {s : Nat} {A op : List Int} {cs : List (Int × Value)} {ls : List (List Int)} {nx : Int} (hal : A.length = 100) (w : World) (hS : OrdS w s A op cs ls nx) (hlen : ls.length ≤ 1000) (hrk : ∀ l ∈ ls, l.length ≤ 500) (hnx0 : 0 ≤ nx) (hnx1 : nx ≤ 2000) (ea eb : Int) (ha : ea ∈ cs.map (·.1)) (hb : eb ∈ cs.map (·.1)) (hab : ea < eb) :
 Calls Try.prog 140 #[.pointer (some ⟨s, 0, none⟩), .agg #[.int .i64 ea, .int .i64 eb]] w fun e w' => ∃ cs', e = .returned (.bool true) ∧ w.grownBy w' (some s) ∧ OrdS w' s A op cs' (labStep op (cs.map (·.1)) ls (ea, eb)) (nx + 1) ∧ cs'.map (·.1) = numStep (cs.map (·.1)) nx (ea, eb) := by
 have HPL := Lib.hid (fun (wx : World) (hS : OrdS wx s A op cs ls nx) (x : Int) => place_any hal wx hS hlen x)
 obtain ⟨i, hi, hi2⟩ := find_nat ha
 obtain ⟨j, hj, hj2⟩ := find_nat hb
 have hcl : cs.length = ls.length := by obtain ⟨_, _, _, _, _, hL⟩ := hS.has; exact hL.len
 have hil : i < ls.length := by have := (List.getElem?_eq_some_iff.1 hi2).1; rw [List.length_map] at this; omega
 have hjl : j < ls.length := by have := (List.getElem?_eq_some_iff.1 hj2).1; rw [List.length_map] at this; omega
 have HCT := Lib.hid (fun (wx : World) (hS : OrdS wx s A op cs ls nx) => contract_any hal wx hS hlen hrk i j hil hjl hnx0 hnx1)
 have HOS := Lib.hid hS
 have HI := Lib.hid hi; have HJ := Lib.hid hj
 have hab1 : ¬ eb ≤ ea := by omega
 have hi0 : ¬ ((i : Int) < 0) := by omega
 have hj0 : ¬ ((j : Int) < 0) := by omega
 clear hS hrk hi hj hi2 hj2 hcl ha hb hal
 have hH : Held w w [] := Held.new (Ext.refl w) 0
 go_enter Try.func140, Try.ntmps140
 go_upto_region 1 with fail
 have hB : Held w (w.alloc (.cells #[.int .i64 ea, .int .i64 eb] 138)) [aB (w.heap.size) 138 [.int .i64 ea, .int .i64 eb]] := by
  have h := (hH.mores 1).addB 0 #[.int .i64 ea, .int .i64 eb] 138
  exact h
 have hsz : (w.alloc (.cells #[.int .i64 ea, .int .i64 eb] 138)).heap.size = w.heap.size + 1 := by simp
 generalize w.alloc (.cells #[.int .i64 ea, .int .i64 eb] 138) = wn1 at hB hsz ⊢
 replace hH := hB; have HSZwn1 := Lib.hid hsz; clear hB hsz
 obtain ⟨wz, rfl⟩ : ∃ q, q = wn1 := ⟨wn1, rfl⟩
 refine wp_region_steps ?Fa (fun b t wx => Held w wx [aB (w.heap.size) 138 [.int .i64 ea, .int .i64 eb]] ∧ (b 0 = true → t 0 = .pointer (some ⟨s, 0, none⟩)) ∧ (b 1 = true → t 1 = .pointer (some ⟨w.heap.size, 0, none⟩)) ∧ (b 2 = true → t 2 = .int .i64 ea) ∧ (b 3 = true → t 3 = .int .i64 (i : Int)) ∧ (b 4 = true → t 4 = .pointer (some ⟨s, 0, none⟩)) ∧ (b 5 = true → t 5 = .pointer (some ⟨w.heap.size, 1, none⟩)) ∧ (b 6 = true → t 6 = .int .i64 eb) ∧ (b 7 = true → t 7 = .int .i64 (j : Int)) ∧ (b 8 = true → t 8 = t 3) ∧ (b 9 = true → t 9 = t 7)) ?hFa (by kernel_rfl) (by kernel_rfl) ?hJa ?hSa ?hEa
 (case hFa => intro t; simp only [putAll, Act.put, List.setIfInBounds_toArray, List.set_cons_zero, List.set_cons_succ, Nat.reduceAdd, Nat.zero_add]; exact rfl)
 case hJa => exact ⟨hH.grow ((Ext.refl _).drew), fun h => absurd h Bool.false_ne_true, fun h => absurd h Bool.false_ne_true, fun h => absurd h Bool.false_ne_true, fun h => absurd h Bool.false_ne_true, fun h => absurd h Bool.false_ne_true, fun h => absurd h Bool.false_ne_true, fun h => absurd h Bool.false_ne_true, fun h => absurd h Bool.false_ne_true, fun h => absurd h Bool.false_ne_true, fun h => absurd h Bool.false_ne_true⟩
 case hSa => as_aux_lemma =>
   refine AllSteps.cons (j := 1) rfl (fun b t wx hJ hb hd hcl Kc hK => ?_) ?_
   · obtain ⟨hH, v0, v1, v2, v3, v4, v5, v6, v7, v8, v9⟩ := hJ
     go_simp
     refine hK.out _ ?_ _ ?_ ?_; rotate_left 2
     · rfl
     exact ⟨hH, fun _ => rfl, v1, v2, v3, v4, v5, v6, v7, v8, v9⟩
   refine AllSteps.cons (j := 2) rfl (fun b t wx hJ hb hd hcl Kc hK => ?_) ?_
   · obtain ⟨hH, v0, v1, v2, v3, v4, v5, v6, v7, v8, v9⟩ := hJ
     go_simp
     refine hK.out _ ?_ _ ?_ ?_; rotate_left 2
     · rfl
     exact ⟨hH, v0, fun _ => rfl, v2, v3, v4, v5, v6, v7, v8, v9⟩
   refine AllSteps.cons (j := 3) rfl (fun b t wx hJ hb hd hcl Kc hK => ?_) ?_
   · obtain ⟨hH, v0, v1, v2, v3, v4, v5, v6, v7, v8, v9⟩ := hJ
     have d1 := hd.out 1 (by kernel_rfl); have r1 := v1 d1; have q0_0 := hH.cl 0 0 rfl rfl
     go_simp
     refine hK.out _ ?_ _ ?_ ?_; rotate_left 2
     · (try simp only [r1]); rfl
     exact ⟨hH, v0, v1, fun _ => rfl, v3, v4, v5, v6, v7, v8, v9⟩
   refine AllSteps.cons (j := 4) rfl (fun b t wx hJ hb hd hcl Kc hK => ?_) ?_
   · obtain ⟨hH, v0, v1, v2, v3, v4, v5, v6, v7, v8, v9⟩ := hJ
     have d0 := hd.out 0 (by kernel_rfl); have d2 := hd.out 2 (by kernel_rfl)
     have n8 : b 8 = false := Bool.eq_false_iff.2 fun h => absurd (hcl.out 8 3 (by kernel_rfl) (h)) (by rw [hb]; exact Bool.false_ne_true)
     have r0 := v0 d0; have r2 := v2 d2
     go_simp
     go_at_call 136
     refine (HPL.out _ (HOS.out.ext hH.ext) ea).mono ?_; rintro e3 w3 ⟨rfl, h3⟩
     rw [HI.out]
     (try go_simp)
     refine hK.out _ ?_ _ ?_ ?_; rotate_left 2
     · (try simp only [r0, r2]); rfl
     exact ⟨by have hX := hH.grow h3; simpa only [List.set_cons_zero, List.set_cons_succ, updB, updV, blkOf_mk, tup0_mk, partsOf3, Nat.reduceBEq, cond_true, cond_false, hb, d0, d2, n8, r0, r2] using hX, v0, v1, v2, fun _ => rfl, v4, v5, v6, v7, fun h => absurd (show b 8 = true from h) (by rw [n8]; exact Bool.false_ne_true), v9⟩
   refine AllSteps.cons (j := 5) rfl (fun b t wx hJ hb hd hcl Kc hK => ?_) ?_
   · obtain ⟨hH, v0, v1, v2, v3, v4, v5, v6, v7, v8, v9⟩ := hJ
     go_simp
     refine hK.out _ ?_ _ ?_ ?_; rotate_left 2
     · rfl
     exact ⟨hH, v0, v1, v2, v3, fun _ => rfl, v5, v6, v7, v8, v9⟩
   refine AllSteps.cons (j := 6) rfl (fun b t wx hJ hb hd hcl Kc hK => ?_) ?_
   · obtain ⟨hH, v0, v1, v2, v3, v4, v5, v6, v7, v8, v9⟩ := hJ
     go_simp
     refine hK.out _ ?_ _ ?_ ?_; rotate_left 2
     · rfl
     exact ⟨hH, v0, v1, v2, v3, v4, fun _ => rfl, v6, v7, v8, v9⟩
   refine AllSteps.cons (j := 7) rfl (fun b t wx hJ hb hd hcl Kc hK => ?_) ?_
   · obtain ⟨hH, v0, v1, v2, v3, v4, v5, v6, v7, v8, v9⟩ := hJ
     have d5 := hd.out 5 (by kernel_rfl); have r5 := v5 d5; have q0_1 := hH.cl 0 1 rfl rfl
     go_simp
     refine hK.out _ ?_ _ ?_ ?_; rotate_left 2
     · (try simp only [r5]); rfl
     exact ⟨hH, v0, v1, v2, v3, v4, v5, fun _ => rfl, v7, v8, v9⟩
   refine AllSteps.cons (j := 8) rfl (fun b t wx hJ hb hd hcl Kc hK => ?_) ?_
   · obtain ⟨hH, v0, v1, v2, v3, v4, v5, v6, v7, v8, v9⟩ := hJ
     have d3 := hd.out 3 (by kernel_rfl); have d4 := hd.out 4 (by kernel_rfl); have d6 := hd.out 6 (by kernel_rfl)
     have n9 : b 9 = false := Bool.eq_false_iff.2 fun h => absurd (hcl.out 9 7 (by kernel_rfl) (h)) (by rw [hb]; exact Bool.false_ne_true)
     have r3 := v3 d3; have r4 := v4 d4; have r6 := v6 d6
     go_simp
     go_at_call 136
     refine (HPL.out _ (HOS.out.ext hH.ext) eb).mono ?_; rintro e7 w7 ⟨rfl, h7⟩
     rw [HJ.out]
     (try go_simp)
     refine hK.out _ ?_ _ ?_ ?_; rotate_left 2
     · (try simp only [r3, r4, r6]); rfl
     exact ⟨by have hX := hH.grow h7; simpa only [List.set_cons_zero, List.set_cons_succ, updB, updV, blkOf_mk, tup0_mk, partsOf3, Nat.reduceBEq, cond_true, cond_false, hb, d3, d4, d6, n9, r3, r4, r6] using hX, v0, v1, v2, v3, v4, v5, v6, fun _ => rfl, v8, fun h => absurd (show b 9 = true from h) (by rw [n9]; exact Bool.false_ne_true)⟩
   refine AllSteps.cons (j := 9) rfl (fun b t wx hJ hb hd hcl Kc hK => ?_) ?_
   · obtain ⟨hH, v0, v1, v2, v3, v4, v5, v6, v7, v8, v9⟩ := hJ
     have d0 := hd.out 0 (by kernel_rfl); have d1 := hd.out 1 (by kernel_rfl); have d2 := hd.out 2 (by kernel_rfl); have d3 := hd.out 3 (by kernel_rfl); have d7 := hd.out 7 (by kernel_rfl); have r0 := v0 d0; have r1 := v1 d1; have r2 := v2 d2; have r3 := v3 d3; have r7 := v7 d7
     go_simp
     refine hK.out _ ?_ _ ?_ ?_; rotate_left 2
     · (try simp only [r0, r1, r2, r3, r7]); rfl
     exact ⟨hH, v0, v1, v2, v3, v4, v5, v6, v7, fun _ => (by first | rfl | exact r3.symm), v9⟩
   refine AllSteps.cons (j := 10) rfl (fun b t wx hJ hb hd hcl Kc hK => ?_) ?_
   · obtain ⟨hH, v0, v1, v2, v3, v4, v5, v6, v7, v8, v9⟩ := hJ
     have d0 := hd.out 0 (by kernel_rfl); have d1 := hd.out 1 (by kernel_rfl); have d2 := hd.out 2 (by kernel_rfl); have d3 := hd.out 3 (by kernel_rfl); have d4 := hd.out 4 (by kernel_rfl); have d5 := hd.out 5 (by kernel_rfl); have d6 := hd.out 6 (by kernel_rfl); have d7 := hd.out 7 (by kernel_rfl); have d8 := hd.out 8 (by kernel_rfl); have r0 := v0 d0; have r1 := v1 d1; have r2 := v2 d2; have r3 := v3 d3; have r4 := v4 d4; have r5 := v5 d5; have r6 := v6 d6; have r7 := v7 d7; have r8 := v8 d8
     go_simp
     refine hK.out _ ?_ _ ?_ ?_; rotate_left 2
     · (try simp only [r0, r1, r2, r3, r4, r5, r6, r7, r8]); rfl
     exact ⟨hH, v0, v1, v2, v3, v4, v5, v6, v7, v8, fun _ => (by first | rfl | exact r7.symm)⟩
   exact AllSteps.nil
 case hEa =>
  intro b t wa hJ hall
  obtain ⟨hHa, v0, v1, v2, v3, v4, v5, v6, v7, v8, v9⟩ := hJ
  have a0 := hall 0 (by decide); have a1 := hall 1 (by decide); have a2 := hall 2 (by decide); have a3 := hall 3 (by decide); have a4 := hall 4 (by decide); have a5 := hall 5 (by decide); have a6 := hall 6 (by decide); have a7 := hall 7 (by decide); have a8 := hall 8 (by decide); have a9 := hall 9 (by decide)
  (try simp only [a0, a1, a2, a3, a4, a5, a6, a7, a8, a9, cond_true] at hHa)
  replace v0 := v0 a0; replace v1 := v1 a1; replace v2 := v2 a2; replace v3 := v3 a3; replace v4 := v4 a4; replace v5 := v5 a5; replace v6 := v6 a6; replace v7 := v7 a7; replace v8 := v8 a8; replace v9 := v9 a9
  clear hall a0 a1 a2 a3 a4 a5 a6 a7 a8 a9
  generalize t 9 = x9 at hHa v9 ⊢; generalize t 8 = x8 at hHa v8 ⊢; generalize t 7 = x7 at hHa v7 v9 ⊢; generalize t 6 = x6 at hHa v6 ⊢; generalize t 5 = x5 at hHa v5 ⊢; generalize t 4 = x4 at hHa v4 ⊢; generalize t 3 = x3 at hHa v3 v8 ⊢; generalize t 2 = x2 at hHa v2 ⊢; generalize t 1 = x1 at hHa v1 ⊢; generalize t 0 = x0 at hHa v0 ⊢; subst v0; subst v1; subst v2; subst v3; subst v4; subst v5; subst v6; subst v7; subst v8; subst v9
  clear b
  replace hH := hHa; clear hHa
  replace hH : Held w wa [aB (w.heap.size) 138 [.int .i64 ea, .int .i64 eb]] := hH
  have q0_0 := hH.cl 0 0 rfl rfl; have q0_1 := hH.cl 0 1 rfl rfl; have l0_ := hH.bl 0 rfl
  go_wp2_with fail
  clear q0_0 q0_1 l0_
  refine (HCT.out _ (HOS.out.ext hH.ext)).mono ?_; rintro e5 w5 ⟨na, nb, u, rfl, _, _, g5, hS5⟩
  have HE := Lib.hid hH.ext; clear hH
  go_wp2
  go_ret
  refine ⟨drop2 cs i j ++ [(nx, u)], rfl, grownBy_trans (HE.out.gr (some s)) g5, ?_, ?_⟩
  · unfold labStep; show OrdS _ s A op _ (drop2 ls (findL (cs.map (·.1)) ea).toNat (findL (cs.map (·.1)) eb).toNat ++ [resL op ls (findL (cs.map (·.1)) ea).toNat (findL (cs.map (·.1)) eb).toNat]) _; rw [HI.out, HJ.out]; exact hS5
  · unfold numStep; show _ = drop2 (cs.map (·.1)) (findL (cs.map (·.1)) ea).toNat (findL (cs.map (·.1)) eb).toNat ++ [nx]; rw [HI.out, HJ.out, List.map_append, ← drop2_map]; rfl
theorem Try.infoStep : (Try.prog.info? 138).map (fun i => (i.zero, i.size, i.bytes)) = some (some (.agg #[.int .i64 0, .int .i64 0]), 2, 16) := by kernel_rfl
section
variable {ex : Option Nat} {a w w' : World} {L : List Asn} {k : Nat}
theorem run_pushSt (ty : TypeId) {v src x y : Value} {n : Nat} {xs : List Value} (h : HeldX ex a w L) (h1 : L[k]? = some (aR 138 2 v n xs)) (hr : Row w 2 src 1 [x, y]) (hx : x.oneCell' = true) (hy : y.oneCell' = true) (hb : n + 1 ≤ 1099511627) :
    ∃ v' w', (Builtin.append_ #[72, 72] ty #[v, src]).run Try.prog w = .ok v' w' ∧ HeldX ex a w' (L.set k (aR 138 2 v' (n + 1) (xs ++ [x, y]))) ∧ w.grownBy w' v.ownBlock ∧ Row w' 2 v' (n + 1) (xs ++ [x, y]) := by
  have ho : w.ownsRow 0 138 2 v n xs := h.get h1
  obtain ⟨i, hi, hzz⟩ := Option.map_eq_some_iff.1 Try.infoStep
  simp only [Prod.mk.injEq] at hzz
  obtain ⟨hz, hsz, hby⟩ := hzz
  obtain ⟨v', w', e1, e2, e3, e4⟩ := run_app (P := Try.prog) w 0 72 ty 138 i _ 2 16 Try.underlying72 hi hz hsz hby rfl (by omega) v _ _ ho src 1 _ hr (by intro u hu; simp at hu; rcases hu with rfl | rfl; exact hx; exact hy) (by unfold maxLen; omega) (by omega) (Nat.zero_le _)
  refine ⟨v', w', e1, h.turn h1 e3 (fun b hb => by simp [aR, hb]) e2 fun c hc => ?_, e3, ownsRow_row e2⟩
  rcases e4 with e4 | e4
  · left; have hc' : c ∈ v'.ownBlock.toList := hc; rw [e4] at hc'; exact hc'
  · right; have hc' : c ∈ v'.ownBlock.toList := hc; rw [e4] at hc'; simp at hc'; omega
end
def aSt (v : Value) (os : List (Int × Int)) : Asn := aR 138 2 v os.length (os.flatMap cellsP)
theorem HeldX.steps {ex : Option Nat} {a w : World} {L : List Asn} {k : Nat} {v : Value} {os : List (Int × Int)} (h : HeldX ex a w L) (hk : L[k]? = some (aSt v os)) : StepsS w v os := ⟨ownsRow_row (h.get hk)⟩
def plainAt (m q : Nat) : Int × Int := if q = 0 then (0, 1) else ((q : Int) + 1, (m : Int) + q - 1)
def plainT (m q : Nat) : List (Int × Int) := (List.range q).map (plainAt m)
theorem plainT_succ (m q : Nat) : plainT m (q + 1) = plainT m q ++ [plainAt m q] := by simp [plainT, List.range_succ]
theorem plainT_len (m q : Nat) : (plainT m q).length = q := by simp [plainT]
theorem plainC_succ (m q : Nat) : (plainT m (q + 1)).flatMap cellsP = (plainT m q).flatMap cellsP ++ [.int .i64 (plainAt m q).1, .int .i64 (plainAt m q).2] := by rw [plainT_succ, List.flatMap_append]; rfl
set_option maxRecDepth 100000 in
set_option maxHeartbeats 400000 in
theorem plainOrder_own {k p n : Int} (hr : ringOk k p n = true) {dm : Int → Int} {U : List Int} {ts : List (NT k p n)} {op : List Int} (hN : IsN k p n dm U ts op) (tv ov : Value) (w : World) (hT : TensS w tv (ts.map (tenOf dm))) (hO : IntS w ov op) :
 Calls Try.prog 68 #[.agg #[.int .i64 k, .int .i64 p, .int .i64 n, tv, ov]] w fun e w' => ∃ v, e = .returned v ∧ Held w w' [aSt v (plainT ts.length (ts.length - 1))] := by
 have hT0 := hT
 have hO0 := hO
 obtain ⟨m, hm⟩ : ∃ m, ts.length = m := ⟨_, rfl⟩
 obtain ⟨aV, cV, rfl, hcT1, hcT2⟩ := hT.val
 obtain ⟨aO, cO, rfl, hcO1, hcO2⟩ := hO.val
 rw [List.length_map, hm] at hT hT0 hcT1
 rw [List.length_map, hm]
 have hm12 : m ≤ 12 := by rw [← hm]; exact hN.len
 have hop12 : op.length ≤ 12 := hN.rank
 have HM := Lib.hid hm; have HR := Lib.hid hr; have HN := Lib.hid hN; have HD3 := Lib.hid hN.dims3; clear hm hr hN
 have hTl : Hid ((ts.map (tenOf dm)).length = m) := Lib.hid (by rw [List.length_map]; exact HM.out)
 have HP0 : Hid (plainT m 0 = []) := Lib.hid rfl
 have HPS := Lib.hid (plainC_succ m)
 have HPA : Hid (∀ q : Nat, plainAt m q = if q = 0 then (0, 1) else ((q : Int) + 1, (m : Int) + q - 1)) := Lib.hid fun q => rfl
 have HPL := Lib.hid (plainT_len m)
 obtain ⟨PT, hPT⟩ : ∃ f, plainT m = f := ⟨_, rfl⟩
 rw [hPT] at HP0 HPS HPL ⊢
 clear hPT
 go_enter Try.func68, Try.ntmps68
 go_upto_region 1 with fail
 have hH : Held w w [] := Held.new (Ext.refl w) 0
 have hB : Held w (w.alloc (.cells #[.int .i64 k, .int .i64 p, .int .i64 n, .slice aV m cV, .slice aO op.length cO] 29)) [aB (w.heap.size) 29 [.int .i64 k, .int .i64 p, .int .i64 n, .slice aV m cV, .slice aO op.length cO]] := by
  have h := (hH.mores 1).addB 0 #[.int .i64 k, .int .i64 p, .int .i64 n, .slice aV m cV, .slice aO op.length cO] 29
  exact h
 have hsz : (w.alloc (.cells #[.int .i64 k, .int .i64 p, .int .i64 n, .slice aV m cV, .slice aO op.length cO] 29)).heap.size = w.heap.size + 1 := by simp
 generalize w.alloc (.cells #[.int .i64 k, .int .i64 p, .int .i64 n, .slice aV m cV, .slice aO op.length cO] 29) = wn1 at hB hsz ⊢
 replace hH := hB; have HSZwn1 := Lib.hid hsz; clear hB hsz
 have q0_0 := hH.cl 0 0 rfl rfl; have q0_1 := hH.cl 0 1 rfl rfl; have q0_2 := hH.cl 0 2 rfl rfl; have q0_3 := hH.cl 0 3 rfl rfl; have q0_4 := hH.cl 0 4 rfl rfl; have l0_ := hH.bl 0 rfl
 go_wp2_with fail
 clear q0_0 q0_1 q0_2 q0_3 q0_4 l0_
 refine (networkOk_any HR.out HN.out _ _ _ (hT0.ext hH.ext) (hO0.ext hH.ext)).mono ?_; rintro e0 w0 ⟨rfl, h0⟩
 replace hH := hH.grow h0
 replace hH := hH.nilR 138 2
 replace hH : Held w w0 [aB (w.heap.size) 29 [.int .i64 k, .int .i64 p, .int .i64 n, .slice aV m cV, .slice aO op.length cO], aR 138 2 (.slice none 0 0) 0 []] := hH
 have q0_0 := hH.cl 0 0 rfl rfl; have q0_1 := hH.cl 0 1 rfl rfl; have q0_2 := hH.cl 0 2 rfl rfl; have q0_3 := hH.cl 0 3 rfl rfl; have q0_4 := hH.cl 0 4 rfl rfl; have l0_ := hH.bl 0 rfl
 go_wp2_with fail
 clear q0_0 q0_1 q0_2 q0_3 q0_4 l0_
 go_loopw [3, 5] (fun vl i wr => ∃ (q : Nat) (al : Option Addr) (cl : Nat), q ≤ m - 1 ∧ i = .int .i64 (q : Int) ∧ vl = .slice al q cl ∧ Held w wr [aB (w.heap.size) 29 [.int .i64 k, .int .i64 p, .int .i64 n, .slice aV m cV, .slice aO op.length cO], aR 138 2 (.slice al q cl) q ((PT q).flatMap cellsP)]) (fun vl i wr => m - 1 - (RowKit.intOf i).toNat)
 case atStart => exact ⟨0, none, 0, Nat.zero_le _, rfl, rfl, by rw [HP0.out]; exact hH⟩
 case round =>
  clear hH
  obtain ⟨q, al, cl, hq, rfl, rfl, hH⟩ := hrel
  by_cases hlt : (q : Int) < (m : Int) - 1
  ·
   have hps := HPS.out q; rw [HPA.out q] at hps
   by_cases hz : q = 0
   ·
    rw [if_pos hz] at hps
    have HPQ := Lib.hid hps; clear hps
    have hbe : ((q : Int) == 0) = true := by rw [beq_iff_eq]; omega
    have hzi : (q : Int) = 0 := by omega
    clear hz hzi
    have q0_0 := hH.cl 0 0 rfl rfl; have q0_1 := hH.cl 0 1 rfl rfl; have q0_2 := hH.cl 0 2 rfl rfl; have q0_3 := hH.cl 0 3 rfl rfl; have q0_4 := hH.cl 0 4 rfl rfl; have l0_ := hH.bl 0 rfl
    go_wp2_with (at_builtin; refine wpList_app _ rfl _ _ 72 rfl _ _ rfl rfl _ (run_pushSt _ (hH.grow ((Ext.refl _).alloc _)) (n := q) (k := 1) rfl (row_one2 _ _ _ _) rfl rfl (by omega)) ?_; rintro vp wp ⟨hHp, gp, rp⟩; obtain ⟨ap, cp, rfl, _, _⟩ := rp.val)
    go_roundw
    case rel => exact ⟨q + 1, _, _, by omega, by go_num, rfl, by rw [HPQ.out]; exact hHp⟩
    case measure => simp [RowKit.intOf]; omega
   ·
    rw [if_neg hz] at hps
    have HPQ := Lib.hid hps; clear hps
    have hbe : ((q : Int) == 0) = false := by rw [beq_eq_false_iff_ne]; omega
    have hzi : ¬ (q : Int) = 0 := by omega
    have q0_0 := hH.cl 0 0 rfl rfl; have q0_1 := hH.cl 0 1 rfl rfl; have q0_2 := hH.cl 0 2 rfl rfl; have q0_3 := hH.cl 0 3 rfl rfl; have q0_4 := hH.cl 0 4 rfl rfl; have l0_ := hH.bl 0 rfl
    go_wp2_with (at_builtin; refine wpList_app _ rfl _ _ 72 rfl _ _ rfl rfl _ (run_pushSt _ (hH.grow ((Ext.refl _).alloc _)) (n := q) (k := 1) rfl (row_one2 _ _ _ _) rfl rfl (by omega)) ?_; rintro vp wp ⟨hHp, gp, rp⟩; obtain ⟨ap, cp, rfl, _, _⟩ := rp.val)
    go_roundw
    case rel => exact ⟨q + 1, _, _, by omega, by go_num, rfl, by rw [HPQ.out]; exact hHp⟩
    case measure => simp [RowKit.intOf]; omega
  ·
   have hqe : q = m - 1 := by omega
   have HQE := Lib.hid hqe; clear hqe
   have hH2 := hH.sub (L' := [aR 138 2 (.slice al q cl) q ((PT q).flatMap cellsP)]) (.cons _ (.cons_cons _ .slnil))
   have HH2 := Lib.hid hH2; clear hH hH2
   go_wp2
   go_ret
   exact ⟨_, rfl, by unfold aSt; rw [← HQE.out, HPL.out]; exact HH2.out⟩
def okB : List Int → Int → List (Int × Int) → Bool
  | _, _, [] => true
  | ns, nx, s :: r => hasL ns s.1 && (hasL ns s.2 && (decide (s.1 < s.2) && okB (numStep ns nx s) (nx + 1) r))
theorem okB_ok : ∀ {r : List (Int × Int)} {ns : List Int} {nx : Int}, okB ns nx r = true → okO ns nx r
  | [], _, _, _ => trivial
  | s :: r, ns, nx, h => by
    unfold okB at h
    rw [Bool.and_eq_true, Bool.and_eq_true, Bool.and_eq_true] at h
    exact ⟨(hasL_iff _ _).1 h.1, (hasL_iff _ _).1 h.2.1, of_decide_eq_true h.2.2.1, okB_ok h.2.2.2⟩
theorem plain_okB : (List.range 13).all (fun m => okB (numL m) (m : Int) (plainT m (m - 1))) = true := by kernel_rfl
theorem plain_ok {m : Nat} (h : m ≤ 12) : okO (numL m) (m : Int) (plainT m (m - 1)) :=
  okB_ok (List.all_eq_true.1 plain_okB m (List.mem_range.2 (by omega)))
structure TensR (w : World) (z : Nat) (v : Value) (cs : List (Value × Value × Value)) (ts : List (List Int × List Int × List Int)) : Prop where
  len : cs.length = ts.length
  row : Row w 3 v ts.length (cs.flatMap cells3)
  elem : ∀ (i : Nat) (c : Value × Value × Value) (t : List Int × List Int × List Int), cs[i]? = some c → ts[i]? = some t → IntS w c.1 t.1 ∧ IntS w c.2.1 t.2.1 ∧ IntS w c.2.2 t.2.2
  off : 0 < ts.length → v.ownBlock ≠ some z
  offs : ∀ (i : Nat) (c : Value × Value × Value) (t : List Int × List Int × List Int), cs[i]? = some c → ts[i]? = some t → (0 < t.1.length → c.1.ownBlock ≠ some z) ∧ (0 < t.2.1.length → c.2.1.ownBlock ≠ some z) ∧ (0 < t.2.2.length → c.2.2.ownBlock ≠ some z)
section
variable {w w' : World} {z s : Nat} {v v' : Value} {cs : List (Value × Value × Value)} {ts : List (List Int × List Int × List Int)}
theorem TensR.at (h : TensR w' z v cs ts) (h2 : TensR w s v cs ts) : TensR w' s v cs ts := ⟨h.len, h.row, h.elem, h2.off, h2.offs⟩
end
theorem IntS.notBlk {w : World} {v : Value} {l : List Int} {q : Nat} {T : TypeId} {xs : List Value} (h : IntS w v l) (hB : Blk w q T xs) (hx : ∀ u ∈ xs, ∀ i : Int, u ≠ .int .i64 i) : 0 < l.length → v.ownBlock ≠ some q := by
  intro hp e
  obtain ⟨a, cap, rfl, _, _, h3⟩ := h.row.val
  obtain ⟨b, off, rfl, hc⟩ := h3 (by rw [ints_length]; exact hp)
  have hb : b = q := by simpa [Value.ownBlock] using e
  subst hb
  obtain ⟨i, hi⟩ : ∃ i : Int, (ints l)[0]? = some (.int .i64 i) := by
    rcases l with _ | ⟨i, l⟩
    · simp at hp
    · exact ⟨i, rfl⟩
  have h4 := hc 0 _ hi
  rw [Nat.add_zero] at h4
  simp only [World.cell?, hB.row] at h4
  simp at h4
  exact hx _ (List.mem_of_getElem? h4) i rfl
structure OrdV (w : World) (s : Nat) (v : Value) (A : List Int) (op : List Int) (cs : List (Int × Value)) (ls : List (List Int)) (nx : Int) : Prop where
  st : OrdS w s A op cs ls nx
  aw : ∀ z, v.ownBlock = some z → z < w.heap.size ∧ z ≠ s ∧ OrdA w s z A op cs ls nx
section
variable {w w' : World} {s : Nat} {v v' : Value} {A op : List Int} {cs : List (Int × Value)} {ls : List (List Int)} {nx : Int}
theorem OrdV.nil (h : OrdS w s A op cs ls nx) (hv : v.ownBlock = none) : OrdV w s v A op cs ls nx := ⟨h, fun z hz => by rw [hv] at hz; cases hz⟩
theorem OrdV.ext (h : OrdV w s v A op cs ls nx) (e : Ext w w') : OrdV w' s v A op cs ls nx :=
  ⟨h.st.ext e, fun z hz => ⟨Nat.lt_of_lt_of_le (h.aw z hz).1 e.size, (h.aw z hz).2.1, (h.aw z hz).2.2.ext e⟩⟩
theorem OrdV.push (h : OrdV w s v A op cs ls nx) (g : w.grownBy w' v.ownBlock) (nn : ∀ q, v'.ownBlock = some q → v.ownBlock = some q ∨ w.heap.size ≤ q) (hb : ∀ q, v'.ownBlock = some q → q < w'.heap.size) : OrdV w' s v' A op cs ls nx := by
  have hs := h.st.lt
  rcases hv : v.ownBlock with _ | z0
  · rw [hv] at g nn
    have e := gr_ext g
    refine ⟨h.st.ext e, fun z hz => ⟨hb z hz, ?_, ?_⟩⟩
    · rcases nn z hz with h1 | h1
      · cases h1
      · omega
    · rcases nn z hz with h1 | h1
      · cases h1
      · exact (OrdA.new h.st h1).ext e
  · obtain ⟨hz0, hne0, hA⟩ := h.aw z0 hv
    rw [hv] at g nn
    have hk := hA.keepz g (Ne.symm hne0)
    refine ⟨hk.toS, fun z hz => ⟨hb z hz, ?_⟩⟩
    rcases nn z hz with h1 | h1
    · cases h1; exact ⟨hne0, hk⟩
    · refine ⟨by omega, ?_⟩
      obtain ⟨ov, lv, a, b, c, d, f, k⟩ := hA.has
      refine ⟨ov, lv, a.block (g.block s a.lt (by simpa using Ne.symm hne0)), b.keep g f, c, (k.keep g).at d, fun hp e => ?_, ⟨d.len, (k.keep g).row, (k.keep g).elem, fun hp e => ?_, fun q x t hx ht hp e => ?_⟩⟩
      · have := row_block_lt b.row (by rwa [ints_length]) e; omega
      · have := row_block_lt d.row (by rw [cells2_len, d.len]; omega) e; omega
      · have := row_block_lt (d.elem q x t hx ht).row (by rwa [ints_length]) e; omega
end
theorem contract_anyV {s : Nat} {v : Value} {A op : List Int} {cs : List (Int × Value)} {ls : List (List Int)} {nx : Int} (hal : A.length = 100) (w : World) (hS : OrdV w s v A op cs ls nx) (hlen : ls.length ≤ 1000) (hrk : ∀ l ∈ ls, l.length ≤ 500) (i j : Nat) (hi : i < ls.length) (hj : j < ls.length) (hnx0 : 0 ≤ nx) (hnx1 : nx ≤ 2000) :
    Calls Try.prog 139 #[.pointer (some ⟨s, 0, none⟩), .int .i64 (i : Int), .int .i64 (j : Int)] w fun e w' => ∃ a b u, e = .returned (.agg #[.int .i64 a, .int .i64 b]) ∧ (cs[i]?.map (·.1)) = some a ∧ (cs[j]?.map (·.1)) = some b ∧ w.grownBy w' (some s) ∧ OrdV w' s v A op (drop2 cs i j ++ [(nx, u)]) (drop2 ls i j ++ [resL op ls i j]) (nx + 1) := by
  rcases hv : v.ownBlock with _ | z
  · exact (contract_any hal w hS.st hlen hrk i j hi hj hnx0 hnx1).mono fun e w' ⟨a, b, u, h1, h2, h3, h4, h5⟩ => ⟨a, b, u, h1, h2, h3, h4, OrdV.nil h5 hv⟩
  · obtain ⟨hz, hne, hA⟩ := hS.aw z hv
    refine (contract_anyA hal w hA hlen hrk i j hi hj hnx0 hnx1 hz).mono fun e w' ⟨a, b, u, h1, h2, h3, h4, h5⟩ => ⟨a, b, u, h1, h2, h3, h4, h5.toS, fun q hq => ?_⟩
    rw [hv] at hq
    cases hq
    exact ⟨Nat.lt_of_lt_of_le hz h4.size, hne, h5⟩
end Go.Proofs.Ytpegckmagiaggaa
