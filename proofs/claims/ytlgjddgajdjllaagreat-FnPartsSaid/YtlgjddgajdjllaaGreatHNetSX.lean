/- NetworkValue of the reference. -/
import Derived.Test.YtlgjddgajdjllaaGreatHNetSW
set_option linter.unusedSimpArgs false
set_option linter.unusedVariables false
namespace Go.Proofs.YtlgjddgajdjllaaGreat
open Go.RowKit
theorem l05Get_len (k p n i : Int) (o W nd : Nat) (hW : ringWidth k n = (W : Int)) (a1 a2 : Option Addr) (m1 c1 m2 c2 bd off cd : Nat) (X : List Int) (w : World) (hnd : X.length = nd) (hX : IntS w (.slice (some ⟨bd, off, none⟩) nd cd) X) (ho : i * (W : Int) = o) (hi : 0 ≤ i) (hw : RingWide k n) (hfit : o + W ≤ nd) (hcd : nd ≤ cd) (hlen : nd ≤ 1048576) :
    Calls Tryz.prog 72 #[ringV k p n, .agg #[.slice a1 m1 c1, .slice a2 m2 c2, .slice (some ⟨bd, off, none⟩) nd cd], .int .i64 i] w fun e w' => ∃ v, e = .returned v ∧ OwnI w' w.heap.size v (getL X o W) ∧ Ext w w' := by
  subst hnd
  exact l05Get_own k p n i o W hW a1 a2 m1 c1 m2 c2 bd off cd X w hX ho hi hw hfit hcd hlen
theorem capGo_small {lim : Int} : ∀ {D : List Int} {a : Int}, 1 ≤ a → (∀ d ∈ D, 1 ≤ d ∧ d ≤ 8) → a * prodL D ≤ lim → capGo lim a D = a * prodL D
  | [], a, _, _, _ => by simp [capGo, prodL]
  | d :: D, a, ha, hd, h => by
    have h1 := hd d (by simp)
    have hD : ∀ x ∈ D, 1 ≤ x ∧ x ≤ 8 := fun x hx => hd x (by simp [hx])
    have h2 := prodL_pos hD
    have h3 : 1 ≤ a * d := by
      have : a * 1 ≤ a * d := Int.mul_le_mul_of_nonneg_left h1.1 (by omega)
      omega
    rw [prodL_cons, ← Int.mul_assoc] at h ⊢
    have h4 : a * d * 1 ≤ a * d * prodL D := Int.mul_le_mul_of_nonneg_left h2 (by omega)
    have e : min (a * d) (lim + 1) = a * d := by omega
    rw [capGo, e, capGo_small h3 hD h]
theorem AxOk.cap65 {L D : List Int} (h : AxOk L D) : capGo 65536 1 D = prodL D := by
  have := h.size
  rw [capGo_small (by omega) h.dims (by omega), Int.one_mul]
section
variable {k p n : Int} (hr : ringOk k p n = true) {W : Nat} (hW : ringWidth k n = (W : Int))
variable {dm : Int → Int} {U : List Int} {ts : List (NT k p n)} {op : List Int}
theorem off_dot (h : IsN k p n dm U ts op) (o : Nat) : offL (op.map dm) (op.map (asg (axs dm (ascL (occ ts))) o σ0)) = dotL ((ascL (occ ts)).map (stride op (op.map dm))) ((ascL (occ ts)).map (asg (axs dm (ascL (occ ts))) o σ0)) := by
  have hC : ∀ l ∈ op, l ∈ ascL (occ ts) := fun l hl => h.opAsc hl
  have hf := asc_fit h o hC
  have hd : ∀ l ∈ op, 1 ≤ dm l := fun l hl => (h.uni.dim (h.sub.sub l hl)).1
  have hp : ∀ l ∈ op, 0 ≤ asg (axs dm (ascL (occ ts))) o σ0 l := fun l hl => (hf (l, dm l) (List.mem_map_of_mem hl)).1
  rw [offL_map hd hp, dot_off (dm := dm) h.ascSub.nodup h.sub.nodup hC hd hp]
end
set_option maxRecDepth 100000 in
set_option maxHeartbeats 1800000 in
theorem networkValue_spec {k p n : Int} (hr : ringOk k p n = true) {dm : Int → Int} {U : List Int} {ts : List (NT k p n)} {op : List Int} (hN : IsN k p n dm U ts op) (tv ov : Value) (w : World) (hT : TensS w tv (ts.map (tenOf dm))) (hO : IntS w ov op) :
 Calls Tryz.prog 29 #[.agg #[.int .i64 k, .int .i64 p, .int .i64 n, tv, ov]] w fun e w' => ∃ u, e = .returned (.tuple #[u, .bool true]) ∧ OwnT w' w.heap.size u op (op.map dm) (flat (netXs hr dm ts op)) ∧ Ext w w' := by
 obtain ⟨m, aV, cV, aO, cO, rfl, rfl, hcT1, hcT2, hcO1, hcO2, hm12, hop12, HM, HD3, hTl⟩ := net_in hN hT hO
 have hT0 := hT; have hO0 := hO; have HR := Lib.hid hr; have HN := Lib.hid hN; clear hN; try rw [HM.out]
 have hw := ringOk_wide hr
 obtain ⟨W, hW⟩ : ∃ W : Nat, ringWidth k n = (W : Int) := ⟨(ringWidth k n).toNat, by have := hw.lo; omega⟩
 have hW1 : 1 ≤ W := by have := hw.lo; omega
 have hW6 : W ≤ 6 := by have := hw.hi; omega
 have HWW := Lib.hid hW; clear hW
 obtain ⟨AL, hAL⟩ : ∃ q, ascL (occ ts) = q := ⟨_, rfl⟩
 have SA : Hid (Sub U AL) := Lib.hid (hAL ▸ HN.out.ascSub)
 have UU := Lib.hid HN.out.uni
 have SO := Lib.hid HN.out.sub
 have hal12 : AL.length ≤ 12 := (UU.out.ax SA.out).rank
 have HAX := Lib.hid (UU.out.ax SA.out)
 have HOX := Lib.hid (UU.out.ax SO.out)
 obtain ⟨NA, hNA⟩ : ∃ q, size (axs dm AL) = q := ⟨_, rfl⟩
 have hna1 : 1 ≤ NA := by rw [← hNA]; exact (UU.out.small SA.out).2
 have hna2 : NA ≤ 4096 := by rw [← hNA]; exact (UU.out.small SA.out).1
 have HPA : Hid (capGo 65536 1 (AL.map dm) = (NA : Int)) := Lib.hid (by rw [HAX.out.cap65, ← hNA]; exact (UU.out.size SA.out).symm)
 have HNA := Lib.hid hNA
 obtain ⟨Z, hZ⟩ : ∃ Z : Nat → List (El k p n), netZ hr dm ts op = Z := ⟨_, rfl⟩
 have HFin : Hid (netXs hr dm ts op = Z NA) := Lib.hid (by rw [← hZ, ← hNA, ← hAL]; exact (netZ_all hr HN.out).symm)
 obtain ⟨N, hNN⟩ : ∃ q, size (axs dm op) * W = q := ⟨_, rfl⟩
 have hn1 : 1 ≤ N := by rw [← hNN]; exact Nat.mul_le_mul (UU.out.small SO.out).2 hW1
 have hn2 : N ≤ 4096 * 6 := by rw [← hNN]; exact Nat.mul_le_mul (UU.out.small SO.out).1 hW6
 have HZL : Hid (∀ o, (flat (Z o)).length = N) := Lib.hid fun o => by rw [← hZ, flat_length HWW.out, netZ_length, hNN]
 have HZ0 : Hid (flat (Z 0) = rep (prodL (op.map dm)).toNat (zeroL k p n)) := Lib.hid (by
  rw [← hZ, netZ_zero', ← flat_rep]
  show rep (size (axs dm op)) (zeroL k p n) = _
  have := UU.out.size SO.out
  congr 1; omega)
 obtain ⟨σ, hσ⟩ : ∃ σ : Nat → Int → Int, (fun o => asg (axs dm AL) o σ0) = σ := ⟨_, rfl⟩
 have hσo : ∀ o, asg (axs dm AL) o σ0 = σ o := fun o => congrFun hσ o
 obtain ⟨F, hF⟩ : ∃ F : Nat → List Int, (fun o => (netF hr dm ts (σ o)).1) = F := ⟨_, rfl⟩
 have hFo : ∀ o, (netF hr dm ts (σ o)).1 = F o := fun o => congrFun hF o
 have HFK : Hid (∀ o, rawOk k p n (F o) = true) := Lib.hid fun o => by rw [← hFo]; exact (netF hr dm ts (σ o)).2
 have HFO := Lib.hid hFo
 have HStep := Lib.hid (fun (o : Nat) => net_stepZ hr HWW.out HN.out (o := o))
 have HOD := Lib.hid (fun (o : Nat) => off_dot HN.out o)
 have HFIT : Hid (∀ o, ∀ x ∈ AL, 0 ≤ σ o x ∧ σ o x < dm x) := Lib.hid fun o x hx => by
  rw [← hσo]
  have := asg_fits' UU.out SA.out o σ0 (x, dm x) (List.mem_map_of_mem hx)
  exact this
 rw [hAL] at HStep HOD
 simp only [hσo] at HStep HOD
 simp only [hZ, hFo] at HStep
 rw [HFin.out]
 have HIX : Hid (∀ o, o < NA → idxL (AL.map dm) (o : Int) = AL.map (σ o)) := Lib.hid fun o ho => by
  rw [← hσo]; exact idxL_asg SA.out.nodup (fun l hl => (UU.out.dim (SA.out.sub l hl)).1) o σ0
 have HAO : Hid (∀ x ∈ occ ts, x ∈ AL) := Lib.hid fun x hx => by rw [← hAL]; exact HN.out.mem_asc.2 hx
 have HAO2 : Hid (∀ x ∈ AL, x ∈ occ3 (ts.map (tenOf dm))) := Lib.hid fun x hx => by rw [occ3_ten]; rw [← hAL] at hx; exact (mem_ascL.1 hx).2
 have HOO2 : Hid (∀ x ∈ op, x ∈ occ3 (ts.map (tenOf dm))) := Lib.hid fun x hx => by rw [occ3_ten]; exact HN.out.occ x hx
 have HOA : Hid (∀ x ∈ op, x ∈ AL) := Lib.hid fun x hx => HAO.out x (HN.out.occ x hx)
 have HAL := Lib.hid hAL
 clear hAL hNA hZ hNN hσ hF hσo hFo HFin
 go_enter Tryz.func29, Tryz.ntmps29
 go_upto_region 1 with fail
 have hH : Held w w [] := Held.new (Ext.refl w) 0
 obtain ⟨hB, hsz⟩ := hH.laid #[.int .i64 k, .int .i64 p, .int .i64 n, .slice aV m cV, .slice aO op.length cO] 29
 generalize w.alloc (.cells #[.int .i64 k, .int .i64 p, .int .i64 n, .slice aV m cV, .slice aO op.length cO] 29) = wn1 at hB hsz ⊢
 replace hH : Held w wn1 [nB w.heap.size k p n aV m cV aO op.length cO] := hB
 have HSZwn1 := Lib.hid (show wn1.heap.size = w.heap.size + 1 by rw [hsz]); clear hB hsz
 obtain ⟨hB, hsz⟩ := hH.laid #[.slice none 0 0, .slice none 0 0, .slice none 0 0] 35
 generalize wn1.alloc (.cells #[.slice none 0 0, .slice none 0 0, .slice none 0 0] 35) = wn2 at hB hsz ⊢
 replace hH : Held w wn2 [nB w.heap.size k p n aV m cV aO op.length cO, tB (w.heap.size + 1) none 0 0 none 0 0 none 0 0] := by rw [HSZwn1.out] at hB; exact hB
 have HSZwn2 := Lib.hid (show wn2.heap.size = w.heap.size + 1 + 1 by rw [hsz, HSZwn1.out]); clear hB hsz
 obtain ⟨q0_0, q0_1, q0_2, q0_3, q0_4, l0_⟩ := hH.c5 0 rfl; obtain ⟨q1_0, q1_1, q1_2, l1_⟩ := hH.c3 1 rfl
 go_wp2_with fail
 clear q0_0 q0_1 q0_2 q0_3 q0_4 l0_ q1_0 q1_1 q1_2 l1_
 refine (networkOk_spec HR.out HN.out _ _ _ (hT0.ext hH.ext) (hO0.ext hH.ext)).mono ?_; rintro ewn3 wn3 ⟨rfl, hwn3⟩
 replace hH : Held w wn3 [nB w.heap.size k p n aV m cV aO op.length cO, tB (w.heap.size + 1) none 0 0 none 0 0 none 0 0] := hH.grow hwn3
 clear hwn3
 obtain ⟨q0_0, q0_1, q0_2, q0_3, q0_4, l0_⟩ := hH.c5 0 rfl; obtain ⟨q1_0, q1_1, q1_2, l1_⟩ := hH.c3 1 rfl
 go_wp2_with fail
 clear q0_0 q0_1 q0_2 q0_3 q0_4 l0_ q1_0 q1_1 q1_2 l1_
 refine (l12Labels_any HD3.out (by rw [hTl.out]; omega) _ _ (hT.ext hH.ext)).mono ?_; rintro ewn4 wn4 ⟨vl, rfl, ol, hwn4⟩
 rw [occ3_ten, HAL.out] at ol
 obtain ⟨al, cl, rfl⟩ := ol.shape1 AL.length rfl
 replace hH : Held w wn4 [nB w.heap.size k p n aV m cV aO op.length cO, tB (w.heap.size + 1) none 0 0 none 0 0 none 0 0, aI (.slice al AL.length cl) AL] := (hH.mores 1).addI 2 hwn4 ol (Nat.le_refl _)
 clear hwn4
 obtain ⟨q0_0, q0_1, q0_2, q0_3, q0_4, l0_⟩ := hH.c5 0 rfl; obtain ⟨q1_0, q1_1, q1_2, l1_⟩ := hH.c3 1 rfl
 go_wp2_with fail
 clear q0_0 q0_1 q0_2 q0_3 q0_4 l0_ q1_0 q1_1 q1_2 l1_
 refine (l12Dims_any HD3.out (by rw [hTl.out]; omega) HAO2.out (by omega) _ _ _ (hT.ext hH.ext) (hH.ints (k := 2) rfl)).mono ?_; rintro ewn5 wn5 ⟨vd, rfl, od, hwn5⟩
 obtain ⟨ad, cd, rfl⟩ := od.shape1 AL.length (by rw [List.length_map])
 replace hH : Held w wn5 [nB w.heap.size k p n aV m cV aO op.length cO, tB (w.heap.size + 1) none 0 0 none 0 0 none 0 0, aI (.slice al AL.length cl) AL, aI (.slice ad AL.length cd) (AL.map dm)] := (hH.mores 1).addI 3 hwn5 od (Nat.le_refl _)
 clear hwn5
 obtain ⟨q0_0, q0_1, q0_2, q0_3, q0_4, l0_⟩ := hH.c5 0 rfl; obtain ⟨q1_0, q1_1, q1_2, l1_⟩ := hH.c3 1 rfl
 go_wp2_with fail
 clear q0_0 q0_1 q0_2 q0_3 q0_4 l0_ q1_0 q1_1 q1_2 l1_
 refine (l05Product_any _ (AL.map dm) 65536 _ (hH.ints (k := 3) rfl) HAX.out.dims (by omega) (by omega)).mono ?_; rintro e9 w9 ⟨rfl, rfl⟩; rw [HPA.out]
 have hpn : ¬ (65536 : Int) < (NA : Int) := by omega
 obtain ⟨q0_0, q0_1, q0_2, q0_3, q0_4, l0_⟩ := hH.c5 0 rfl; obtain ⟨q1_0, q1_1, q1_2, l1_⟩ := hH.c3 1 rfl
 go_upto_region 8 with fail
 clear q0_0 q0_1 q0_2 q0_3 q0_4 l0_ q1_0 q1_1 q1_2 l1_
 clear hpn
 replace hH := hH.mores 3
 replace hH : Held w wn5 [nB w.heap.size k p n aV m cV aO op.length cO, tB (w.heap.size + 1) none 0 0 none 0 0 none 0 0, aI (.slice al AL.length cl) AL, aI (.slice ad AL.length cd) (AL.map dm), emp, emp, emp] := hH
 refine wp_region_steps ?Fb (fun b t wx => Held w wx [nB w.heap.size k p n aV m cV aO op.length cO, tB (w.heap.size + 1) none 0 0 none 0 0 none 0 0, aI (.slice al AL.length cl) AL, aI (.slice ad AL.length cd) (AL.map dm), (bif b 8 then aI (t 8) (op.map dm) else emp), (bif b 9 then aT (t 9) op (op.map dm) (flat (Z 0)) else emp), (bif b 11 then aB (blkOf (t 10)) 35 (partsOf (t 9)) else (bif b 10 then aB (blkOf (t 10)) 35 [.slice none 0 0, .slice none 0 0, .slice none 0 0] else emp))] ∧ (b 0 = true → t 0 = .pointer (some ⟨w.heap.size, 0, none⟩)) ∧ (b 1 = true → t 1 = .agg #[.int .i64 k, .int .i64 p, .int .i64 n]) ∧ (b 2 = true → t 2 = .pointer (some ⟨w.heap.size, 4, none⟩)) ∧ (b 3 = true → t 3 = .slice aO op.length cO) ∧ (b 4 = true → t 4 = .pointer (some ⟨w.heap.size, 3, none⟩)) ∧ (b 5 = true → t 5 = .slice aV m cV) ∧ (b 6 = true → t 6 = .pointer (some ⟨w.heap.size, 4, none⟩)) ∧ (b 7 = true → t 7 = .slice aO op.length cO) ∧ (b 8 = true → ∃ x c, t 8 = .slice x op.length c) ∧ (b 9 = true → ∃ p1 c1 p2 c2 p3 c3, t 9 = .agg #[.slice p1 op.length c1, .slice p2 op.length c2, .slice p3 N c3]) ∧ (b 10 = true → ∃ q, t 10 = .pointer (some ⟨q, 0, none⟩))) ?hFb (by kernel_rfl) (by kernel_rfl) ?hJb ?hSb ?hEb
 (case hFb => intro t; simp only [putAll, Act.put, List.setIfInBounds_toArray, List.set_cons_zero, List.set_cons_succ, Nat.reduceAdd, Nat.zero_add]; exact rfl)
 case hJb => exact ⟨hH.grow ((Ext.refl _).drew), nof, nof, nof, nof, nof, nof, nof, nof, nof, nof, nof⟩
 case hSb => as_aux_lemma =>
  refine st 1 rfl (fun b t wx hJ hb hd hcl Kc hK => ?_) ?_
  · obtain ⟨hH, hV⟩ := hJ
    go_simp
    apply sk hK
    · rfl
    exact ⟨hH, rp (fun _ => rfl) hV⟩
  refine st 2 rfl (fun b t wx hJ hb hd hcl Kc hK => ?_) ?_
  · obtain ⟨hH, hV⟩ := hJ
    have d0 := so hd 0; have r0 := hV.1 d0; obtain ⟨q0_0, q0_1, q0_2, _⟩ := hH.c3 0 rfl
    go_simp
    apply sk hK
    · (try simp only [r0]); rfl
    exact ⟨hH, jA (rp (fun _ => rfl)) hV⟩
  refine st 3 rfl (fun b t wx hJ hb hd hcl Kc hK => ?_) ?_
  · obtain ⟨hH, hV⟩ := hJ
    go_simp
    apply sk hK
    · rfl
    exact ⟨hH, jB (rp (fun _ => rfl)) hV⟩
  refine st 4 rfl (fun b t wx hJ hb hd hcl Kc hK => ?_) ?_
  · obtain ⟨hH, hV⟩ := hJ
    have d2 := so hd 2; have r2 := hV.2.2.1 d2; have q0_4 := hH.cl 0 4 rfl rfl
    go_simp
    apply sk hK
    · (try simp only [r2]); rfl
    exact ⟨hH, jB (jA (rp (fun _ => rfl))) hV⟩
  refine st 5 rfl (fun b t wx hJ hb hd hcl Kc hK => ?_) ?_
  · obtain ⟨hH, hV⟩ := hJ
    go_simp
    apply sk hK
    · rfl
    exact ⟨hH, jD (rp (fun _ => rfl)) hV⟩
  refine st 6 rfl (fun b t wx hJ hb hd hcl Kc hK => ?_) ?_
  · obtain ⟨hH, hV⟩ := hJ
    have d4 := so hd 4; have r4 := hV.2.2.2.2.1 d4; have q0_3 := hH.cl 0 3 rfl rfl
    go_simp
    apply sk hK
    · (try simp only [r4]); rfl
    exact ⟨hH, jD (jA (rp (fun _ => rfl))) hV⟩
  refine st 7 rfl (fun b t wx hJ hb hd hcl Kc hK => ?_) ?_
  · obtain ⟨hH, hV⟩ := hJ
    go_simp
    apply sk hK
    · rfl
    exact ⟨hH, jD (jB (rp (fun _ => rfl))) hV⟩
  refine st 8 rfl (fun b t wx hJ hb hd hcl Kc hK => ?_) ?_
  · obtain ⟨hH, hV⟩ := hJ
    have d6 := so hd 6; have r6 := hV.2.2.2.2.2.2.1 d6; have q0_4 := hH.cl 0 4 rfl rfl
    go_simp
    apply sk hK
    · (try simp only [r6]); rfl
    exact ⟨hH, jD (jB (jA (rp (fun _ => rfl)))) hV⟩
  refine st 9 rfl (fun b t wx hJ hb hd hcl Kc hK => ?_) ?_
  · obtain ⟨hH, hV⟩ := hJ
    have d5 := so hd 5; have d7 := so hd 7; have r5 := hV.2.2.2.2.2.1 d5; have r7 := hV.2.2.2.2.2.2.2.1 d7
    have hN := hH; (try simp only [hb, d5, d7, cond_true, cond_false] at hN)
    go_simp
    go_at_call 64
    refine (l12Dims_any HD3.out (by rw [hTl.out]; omega) HOO2.out (by omega) _ _ _ (hT.ext hH.ext) (hO.ext hH.ext)).mono ?_; rintro e8 w8 ⟨v8, rfl, o8, h8⟩
    obtain ⟨x8, c8, rfl⟩ := o8.shape1 op.length (by rw [List.length_map])
    (try go_simp)
    apply sk hK
    · (try simp only [r5, r7]); rfl
    exact ⟨by have hX := hN.addI 4 h8 o8 (Nat.le_refl _); simpa only [List.set_cons_zero, List.set_cons_succ, updB, updV, blkOf_mk, tup0_mk, partsOf3, Nat.reduceBEq, cond_true, cond_false, hb, d5, d7, r5, r7] using hX, jD (jD (rp (fun _ => ⟨_, _, rfl⟩))) hV⟩
  refine st 10 rfl (fun b t wx hJ hb hd hcl Kc hK => ?_) ?_
  · obtain ⟨hH, hV⟩ := hJ
    have d1 := so hd 1; have d3 := so hd 3; have d8 := so hd 8
    have n11 : b 11 = false := nf hb fun h => sc hcl 11 9 (h)
    have r1 := hV.2.1 d1; have r3 := hV.2.2.2.1 d3; have r8 := hV.2.2.2.2.2.2.2.2.1 d8
    obtain ⟨x_8, c_8, r8⟩ := r8
    have hN := hH; (try simp only [hb, d1, d3, d8, n11, cond_true, cond_false] at hN)
    rw [r8] at hN -- d8
    have hN8 := hN.ints (k := 4) rfl
    go_simp
    go_at_call 66
    refine (l05Zero_any k p n hw _ _ op (op.map dm) _ (hO.ext hH.ext) hN8 hop12 (by rw [List.length_map]; exact hop12) HOX.out.dims HOX.out.size HOX.out.cap).mono ?_; rintro e9 w9 ⟨v9, rfl, o9, h9⟩
    rw [← HZ0.out] at o9
    obtain ⟨p1, c1, p2, c2, p3, c3, rfl⟩ := o9.shape3 (op.length) (op.length) (N) rfl (by rw [List.length_map]) (HZL.out 0)
    (try go_simp)
    apply sk hK
    · (try simp only [r1, r3, r8]); rfl
    exact ⟨by have hX := hN.addT 5 h9 o9 (Nat.le_refl _); simpa only [List.set_cons_zero, List.set_cons_succ, updB, updV, blkOf_mk, tup0_mk, partsOf3, Nat.reduceBEq, cond_true, cond_false, hb, d1, d3, d8, n11, r1, r3, r8] using hX, jD (jD (jA (rp (fun _ => ⟨_, _, _, _, _, _, rfl⟩)))) hV⟩
  refine st 11 rfl (fun b t wx hJ hb hd hcl Kc hK => ?_) ?_
  · obtain ⟨hH, hV⟩ := hJ
    have n11 : b 11 = false := nf hb fun h => sc hcl 11 10 (h)
    have hN := hH; (try simp only [hb, n11, cond_true, cond_false] at hN)
    go_simp
    apply sk hK
    · rfl
    exact ⟨by have hX := hN.addB 6 #[.slice none 0 0, .slice none 0 0, .slice none 0 0] 35; simpa only [List.set_cons_zero, List.set_cons_succ, updB, updV, blkOf_mk, tup0_mk, partsOf3, Nat.reduceBEq, cond_true, cond_false, hb, n11] using hX, jD (jD (jB (fun _ => fun _ => ⟨_, rfl⟩))) hV⟩
  refine st 12 rfl (fun b t wx hJ hb hd hcl Kc hK => ?_) ?_
  · obtain ⟨hH, hV⟩ := hJ
    have d0 := so hd 0; have d1 := so hd 1; have d2 := so hd 2; have d3 := so hd 3; have d4 := so hd 4; have d5 := so hd 5; have d6 := so hd 6; have d7 := so hd 7; have d8 := so hd 8; have d9 := so hd 9; have d10 := so hd 10; have r0 := hV.1 d0; have r1 := hV.2.1 d1; have r2 := hV.2.2.1 d2; have r3 := hV.2.2.2.1 d3; have r4 := hV.2.2.2.2.1 d4; have r5 := hV.2.2.2.2.2.1 d5; have r6 := hV.2.2.2.2.2.2.1 d6; have r7 := hV.2.2.2.2.2.2.2.1 d7; have r8 := hV.2.2.2.2.2.2.2.2.1 d8; have r9 := hV.2.2.2.2.2.2.2.2.2.1 d9; have r10 := hV.2.2.2.2.2.2.2.2.2.2 d10
    obtain ⟨x_8, c_8, r8⟩ := r8
    obtain ⟨p1_9, c1_9, p2_9, c2_9, p3_9, c3_9, r9⟩ := r9
    obtain ⟨q_10, r10⟩ := r10
    have hN := hH; (try simp only [hb, d0, d1, d2, d3, d4, d5, d6, d7, d8, d9, d10, cond_true, cond_false] at hN)
    simp only [r10, r9, blkOf_mk, tup0_mk, partsOf3] at hN
    have B := hN.blk (k := 6) rfl
    have f0 := B.free 0; have z0 := B.cell (j := 0) rfl
    have f1 := B.free 1; have z1 := B.cell (j := 1) rfl
    have f2 := B.free 2; have z2 := B.cell (j := 2) rfl
    have lB := B.lt; have hmk0 := @tup0_mk
    go_simp
    refine hK.out _ undef _ ?_ ?_; rotate_left 1
    · (try simp only [r0, r1, r2, r3, r4, r5, r6, r7, r8, r9, r10]); rfl
    exact ⟨by have hX := hN.setB3' (k := 6) rfl (.slice p1_9 op.length c1_9) (.slice p2_9 op.length c2_9) (.slice p3_9 N c3_9); simpa only [List.set_cons_zero, List.set_cons_succ, updB, updV, blkOf_mk, tup0_mk, partsOf3, Nat.reduceBEq, cond_true, cond_false, hb, d0, d1, d2, d3, d4, d5, d6, d7, d8, d9, d10, r0, r1, r2, r3, r4, r5, r6, r7, r8, r9, r10] using hX, hV⟩
  exact AllSteps.nil
 intro b t wb hJ hall
 obtain ⟨hHb, v0, v1, v2, v3, v4, v5, v6, v7, v8, v9, v10⟩ := hJ
 have a0 := hall 0 (by decide); have a1 := hall 1 (by decide); have a2 := hall 2 (by decide); have a3 := hall 3 (by decide); have a4 := hall 4 (by decide); have a5 := hall 5 (by decide); have a6 := hall 6 (by decide); have a7 := hall 7 (by decide); have a8 := hall 8 (by decide); have a9 := hall 9 (by decide); have a10 := hall 10 (by decide); have a11 := hall 11 (by decide)
 (try simp only [a0, a1, a2, a3, a4, a5, a6, a7, a8, a9, a10, a11, cond_true] at hHb)
 replace v0 := v0 a0; replace v1 := v1 a1; replace v2 := v2 a2; replace v3 := v3 a3; replace v4 := v4 a4; replace v5 := v5 a5; replace v6 := v6 a6; replace v7 := v7 a7; replace v8 := v8 a8; replace v9 := v9 a9; replace v10 := v10 a10
 clear hall a0 a1 a2 a3 a4 a5 a6 a7 a8 a9 a10 a11
 generalize t 10 = x10 at hHb v10 ⊢; generalize t 9 = x9 at hHb v9 ⊢; generalize t 8 = x8 at hHb v8 ⊢; generalize t 7 = x7 at hHb v7 ⊢; generalize t 6 = x6 at hHb v6 ⊢; generalize t 5 = x5 at hHb v5 ⊢; generalize t 4 = x4 at hHb v4 ⊢; generalize t 3 = x3 at hHb v3 ⊢; generalize t 2 = x2 at hHb v2 ⊢; generalize t 1 = x1 at hHb v1 ⊢; generalize t 0 = x0 at hHb v0 ⊢; subst v0; subst v1; subst v2; subst v3; subst v4; subst v5; subst v6; subst v7
 obtain ⟨xb8, cb8, rfl⟩ := v8
 obtain ⟨p1b9, c1b9, p2b9, c2b9, p3b9, c3b9, rfl⟩ := v9
 obtain ⟨qb10, rfl⟩ := v10
 simp only [blkOf_mk, tup0_mk, partsOf3] at hHb
 clear b
 replace hH := hHb; clear hHb
 replace hH : Held w wb [nB w.heap.size k p n aV m cV aO op.length cO, tB (w.heap.size + 1) none 0 0 none 0 0 none 0 0, aI (.slice al AL.length cl) AL, aI (.slice ad AL.length cd) (AL.map dm), aI (.slice xb8 op.length cb8) (op.map dm), aT (.agg #[.slice p1b9 op.length c1b9, .slice p2b9 op.length c2b9, .slice p3b9 N c3b9]) op (op.map dm) (flat (Z 0)), tB qb10 p1b9 op.length c1b9 p2b9 op.length c2b9 p3b9 N c3b9] := hH
 replace hH : Held w wb [nB w.heap.size k p n aV m cV aO op.length cO, tB (w.heap.size + 1) none 0 0 none 0 0 none 0 0, aI (.slice al AL.length cl) AL, aI (.slice ad AL.length cd) (AL.map dm), aT (.agg #[.slice p1b9 op.length c1b9, .slice p2b9 op.length c2b9, .slice p3b9 N c3b9]) op (op.map dm) (flat (Z 0)), tB qb10 p1b9 op.length c1b9 p2b9 op.length c2b9 p3b9 N c3b9] := hH.sub (.cons_cons _ (.cons_cons _ (.cons_cons _ (.cons_cons _ (.cons _ (.cons_cons _ (.cons_cons _ .slnil)))))))
 replace hH := hH.open3 (k := 4) rfl
 have hvo := hH.own (k := 2) rfl
 obtain ⟨bx, cx, _, hvx, hcx, _⟩ := hvo.open (by rw [HZL.out]; exact hn1)
 rw [HZL.out] at hvx hcx
 cases hvx
 clear hvo
 obtain ⟨q3_0, q3_1, q3_2, q3_3, q3_4, l3_⟩ := hH.c5 3 rfl; obtain ⟨q4_0, q4_1, q4_2, l4_⟩ := hH.c3 4 rfl; obtain ⟨q8_0, q8_1, q8_2, l8_⟩ := hH.c3 8 rfl
 go_wp2_with fail
 clear q3_0 q3_1 q3_2 q3_3 q3_4 l3_ q4_0 q4_1 q4_2 l4_ q8_0 q8_1 q8_2 l8_
 obtain ⟨wc, rfl⟩ : ∃ q, q = wb := ⟨wb, rfl⟩
 go_loopw [8] (fun i wr => ∃ (o : Nat), o ≤ NA ∧ i = .int .i64 (o : Int) ∧ Held w wr [aI (.slice p1b9 op.length c1b9) op, aI (.slice p2b9 op.length c2b9) (op.map dm), aI (.slice (some ⟨bx, 0, none⟩) N c3b9) (flat (Z o)), nB w.heap.size k p n aV m cV aO op.length cO, tB (w.heap.size + 1) none 0 0 none 0 0 none 0 0, aI (.slice al AL.length cl) AL, aI (.slice ad AL.length cd) (AL.map dm), emp, tB qb10 p1b9 op.length c1b9 p2b9 op.length c2b9 (some ⟨bx, 0, none⟩) N c3b9]) (fun i wr => NA - (RowKit.intOf i).toNat)
 case atStart => exact ⟨0, Nat.zero_le _, rfl, hH⟩
 clear hH
 obtain ⟨o, ho, rfl, hH⟩ := hrel
 obtain ⟨wq, rfl⟩ : ∃ q, q = wr := ⟨wr, rfl⟩
 obtain ⟨X, hX⟩ : ∃ X, flat (Z o) = X := ⟨_, rfl⟩
 have HXL : Hid (X.length = N) := Lib.hid (by rw [← hX]; exact HZL.out o)
 rw [hX] at hH
 by_cases hlt : o < NA
 ·
  obtain ⟨q, z, hq1, hq2, hq3, hq4, hq5, hq6⟩ := HStep.out o
  rw [← HOD.out o] at hq1
  rw [hX] at hq3 hq4 hq6
  rw [HXL.out] at hq3
  obtain ⟨X2, hX2⟩ : ∃ X2, flat (Z (o + 1)) = X2 := ⟨_, rfl⟩
  rw [hX2] at hq6
  have HX := Lib.hid hX; have HX2 := Lib.hid hX2; have HQ1 := Lib.hid hq1; have HQ3 := Lib.hid hq3; have HQ4 := Lib.hid hq4; have HQ5 := Lib.hid hq5; have HQ6 := Lib.hid hq6
  have QW : Hid ((q : Int) * (W : Int) = ((q * W : Nat) : Int)) := Lib.hid (by simp)
  have QW2 : Hid ((q : Int) * ringWidth k n = ((q * W : Nat) : Int)) := Lib.hid (by rw [HWW.out]; simp)
  have hq0 : (0 : Int) ≤ (q : Int) := by omega
  have hN99 : N ≤ 1048576 := by omega
  have HIXO := Lib.hid (HIX.out o hlt)
  have HFT := Lib.hid (HFIT.out o)
  have HFU : Hid (rawOk k p n (F o) = true) := Lib.hid (HFK.out o)
  have HFOO := Lib.hid (HFO.out o)
  obtain ⟨τ, hτ⟩ : ∃ τ, σ o = τ := ⟨_, rfl⟩
  obtain ⟨FF, hFF⟩ : ∃ f, F o = f := ⟨_, rfl⟩
  rw [hτ] at HIXO HFT HQ1 HFOO
  rw [hFF] at HFU HQ6 HFOO
  have HADL : Hid (FF.length = W) := Lib.hid (by have := (rawOk_iff.1 HFU.out).1; have := HWW.out; omega)
  clear hX hX2 hq1 hq3 hq4 hq5 hq6 hτ hFF
  obtain ⟨q3_0, q3_1, q3_2, q3_3, q3_4, l3_⟩ := hH.c5 3 rfl; obtain ⟨q4_0, q4_1, q4_2, l4_⟩ := hH.c3 4 rfl; obtain ⟨q8_0, q8_1, q8_2, l8_⟩ := hH.c3 8 rfl
  go_wp2_with fail
  clear q3_0 q3_1 q3_2 q3_3 q3_4 l3_ q4_0 q4_1 q4_2 l4_ q8_0 q8_1 q8_2 l8_
  refine (l05Index_any _ (AL.map dm) (o : Int) _ (hH.ints (k := 6) rfl) HAX.out.dims (by rw [List.length_map]; exact hal12) (by omega) (by omega)).mono ?_; rintro ewn6 wn6 ⟨vv, rfl, ovv, hwn6⟩
  rw [HIXO.out] at ovv
  obtain ⟨av, cv, rfl⟩ := ovv.shape1 AL.length (by rw [List.length_map])
  replace hH : Held w wn6 [aI (.slice p1b9 op.length c1b9) op, aI (.slice p2b9 op.length c2b9) (op.map dm), aI (.slice (some ⟨bx, 0, none⟩) N c3b9) X, nB w.heap.size k p n aV m cV aO op.length cO, tB (w.heap.size + 1) none 0 0 none 0 0 none 0 0, aI (.slice al AL.length cl) AL, aI (.slice ad AL.length cd) (AL.map dm), emp, tB qb10 p1b9 op.length c1b9 p2b9 op.length c2b9 (some ⟨bx, 0, none⟩) N c3b9, aI (.slice av AL.length cv) (AL.map τ)] := (hH.mores 1).addI 9 hwn6 ovv (Nat.le_refl _)
  clear hwn6
  obtain ⟨q3_0, q3_1, q3_2, q3_3, q3_4, l3_⟩ := hH.c5 3 rfl; obtain ⟨q4_0, q4_1, q4_2, l4_⟩ := hH.c3 4 rfl; obtain ⟨q8_0, q8_1, q8_2, l8_⟩ := hH.c3 8 rfl
  go_wp2_with fail
  clear q3_0 q3_1 q3_2 q3_3 q3_4 l3_ q4_0 q4_1 q4_2 l4_ q8_0 q8_1 q8_2 l8_
  have hB : Held w (wn6.alloc (.cells #[] 3)) [aI (.slice p1b9 op.length c1b9) op, aI (.slice p2b9 op.length c2b9) (op.map dm), aI (.slice (some ⟨bx, 0, none⟩) N c3b9) X, nB w.heap.size k p n aV m cV aO op.length cO, tB (w.heap.size + 1) none 0 0 none 0 0 none 0 0, aI (.slice al AL.length cl) AL, aI (.slice ad AL.length cd) (AL.map dm), emp, tB qb10 p1b9 op.length c1b9 p2b9 op.length c2b9 (some ⟨bx, 0, none⟩) N c3b9, aI (.slice av AL.length cv) (AL.map τ), aI (.slice (some ⟨wn6.heap.size, 0, none⟩) 0 0) []] := by
   have h := (hH.mores 1).built 10 [] 0 rfl (by simp [maxLen]) #[] rfl
   exact h
  have hsz : (wn6.alloc (.cells #[] 3)).heap.size = wn6.heap.size + 1 := by simp
  generalize wn6.alloc (.cells #[] 3) = wn7 at hB hsz ⊢
  replace hH := hB; have HSZwn7 := Lib.hid hsz; clear hB hsz
  go_loopw [10, 52] (fun vi i wr => ∃ (q : Nat), q ≤ op.length ∧ i = .int .i64 (q : Int) ∧ Held w wr [aI (.slice p1b9 op.length c1b9) op, aI (.slice p2b9 op.length c2b9) (op.map dm), aI (.slice (some ⟨bx, 0, none⟩) N c3b9) X, nB w.heap.size k p n aV m cV aO op.length cO, tB (w.heap.size + 1) none 0 0 none 0 0 none 0 0, aI (.slice al AL.length cl) AL, aI (.slice ad AL.length cd) (AL.map dm), emp, tB qb10 p1b9 op.length c1b9 p2b9 op.length c2b9 (some ⟨bx, 0, none⟩) N c3b9, aI (.slice av AL.length cv) (AL.map τ), aI vi ((op.take q).map τ)]) (fun vi i wr => op.length - (RowKit.intOf i).toNat)
  case atStart => exact ⟨0, Nat.zero_le _, rfl, hH⟩
  clear hH
  rename_i vi
  obtain ⟨q', hq', rfl, hH⟩ := hrel
  obtain ⟨IL, hIL⟩ : ∃ z, ((op.take q').map τ) = z := ⟨_, rfl⟩
  rw [hIL] at hH
  have hill : IL.length = q' := by rw [← hIL, List.length_map, List.length_take]; omega
  have HILL := Lib.hid hill; have HIL := Lib.hid hIL; clear hIL hill
  obtain ⟨ai, ci, rfl⟩ := (hH.own (k := 10) rfl).shape1 q' HILL.out
  by_cases hlt2 : q' < op.length
  ·
   obtain ⟨bO, oO, x, rfl, hce, hx, _⟩ := hO.get hlt2
   have hxA := HOA.out x (List.mem_of_getElem? hx)
   obtain ⟨f, hff, hfl⟩ : ∃ f : Nat, findL AL x = (f : Int) ∧ AL[f]? = some x := find_nat hxA
   obtain ⟨bW, oW, z', rfl, hcz, hz, _⟩ := (hH.ints (k := 9) rfl).get (i := f) (by rw [List.length_map]; exact (List.getElem?_eq_some_iff.1 hfl).1)
   obtain rfl : z' = τ x := by rw [List.getElem?_map, hfl] at hz; exact (Option.some.inj hz).symm
   have hfa : f < AL.length := (List.getElem?_eq_some_iff.1 hfl).1
   have HIS := Lib.hid (show (op.take (q' + 1)).map τ = IL ++ [τ x] by rw [take_snoc' hx, List.map_append, HIL.out]; rfl)
   have HFF := Lib.hid hff
   clear hx hfl hz hff hxA
   obtain ⟨q3_0, q3_1, q3_2, q3_3, q3_4, l3_⟩ := hH.c5 3 rfl; obtain ⟨q4_0, q4_1, q4_2, l4_⟩ := hH.c3 4 rfl; obtain ⟨q8_0, q8_1, q8_2, l8_⟩ := hH.c3 8 rfl; have c_hce := hH.ext.cell hce
   go_wp2_with fail
   clear q3_0 q3_1 q3_2 q3_3 q3_4 l3_ q4_0 q4_1 q4_2 l4_ q8_0 q8_1 q8_2 l8_ c_hce
   refine (l05Find_any _ AL x _ (hH.ints (k := 5) rfl)).mono ?_; rintro e3 w3 ⟨rfl, rfl⟩
   rw [HFF.out]
   obtain ⟨q3_0, q3_1, q3_2, q3_3, q3_4, l3_⟩ := hH.c5 3 rfl; obtain ⟨q4_0, q4_1, q4_2, l4_⟩ := hH.c3 4 rfl; obtain ⟨q8_0, q8_1, q8_2, l8_⟩ := hH.c3 8 rfl; have c_hce := hH.ext.cell hce
   go_wp2_with (at_builtin; refine wpList_app _ rfl _ _ 27 rfl _ _ rfl rfl _ (run_push _ _ w.heap.size _ IL (τ x) (hH.own (k := 10) rfl) (by rw [HILL.out]; omega) hH.size) ?_; rintro v6 w6 ⟨o6, g6, n6⟩)
   go_roundw
   case rel => exact ⟨q' + 1, by omega, by go_num, by rw [HIS.out]; exact hH.pushed (k := 10) rfl o6 g6 n6⟩
   case measure => simp [RowKit.intOf]; omega
  have hqe : q' = op.length := by omega
  subst hqe
  have hIe := HIL.out; rw [List.take_length] at hIe
  have HIE := Lib.hid hIe; clear hIe
  rw [← HIE.out] at hH
  have HOK : Hid (idxOk (op.map dm) (op.map τ) = true) := Lib.hid (idxOk_map fun l hl => HFT.out l (HOA.out l hl))
  obtain ⟨wb, rfl⟩ : ∃ q, q = wr := ⟨wr, rfl⟩
  obtain ⟨q3_0, q3_1, q3_2, q3_3, q3_4, l3_⟩ := hH.c5 3 rfl; obtain ⟨q4_0, q4_1, q4_2, l4_⟩ := hH.c3 4 rfl; obtain ⟨q8_0, q8_1, q8_2, l8_⟩ := hH.c3 8 rfl
  go_wp2_with fail
  clear q3_0 q3_1 q3_2 q3_3 q3_4 l3_ q4_0 q4_1 q4_2 l4_ q8_0 q8_1 q8_2 l8_
  refine (l05Offset_any _ _ (op.map dm) (op.map τ) _ (hH.ints (k := 1) rfl) (hH.ints (k := 10) rfl) HOK.out HOX.out.dims HOX.out.size).mono ?_; rintro e4 w4 ⟨rfl, rfl⟩; rw [HQ1.out]
  obtain ⟨q3_0, q3_1, q3_2, q3_3, q3_4, l3_⟩ := hH.c5 3 rfl; obtain ⟨q4_0, q4_1, q4_2, l4_⟩ := hH.c3 4 rfl; obtain ⟨q8_0, q8_1, q8_2, l8_⟩ := hH.c3 8 rfl
  go_upto_region 20 with fail
  clear q3_0 q3_1 q3_2 q3_3 q3_4 l3_ q4_0 q4_1 q4_2 l4_ q8_0 q8_1 q8_2 l8_
  have HADDL : Hid ((addL k p z FF).length = W) := Lib.hid (by have := (rawOk_iff.1 (rawOk_add HR.out HQ5.out HFU.out)).1; have := HWW.out; omega)
  replace hH := hH.mores 3
  replace hH : Held w wb [aI (.slice p1b9 op.length c1b9) op, aI (.slice p2b9 op.length c2b9) (op.map dm), aI (.slice (some ⟨bx, 0, none⟩) N c3b9) X, nB w.heap.size k p n aV m cV aO op.length cO, tB (w.heap.size + 1) none 0 0 none 0 0 none 0 0, aI (.slice al AL.length cl) AL, aI (.slice ad AL.length cd) (AL.map dm), emp, tB qb10 p1b9 op.length c1b9 p2b9 op.length c2b9 (some ⟨bx, 0, none⟩) N c3b9, aI (.slice av AL.length cv) (AL.map τ), aI (.slice ai op.length ci) (op.map τ), emp, emp, emp] := hH
  refine wp_region_steps ?Fc (fun b t wx => Held w wx [aI (.slice p1b9 op.length c1b9) op, aI (.slice p2b9 op.length c2b9) (op.map dm), (bif b 16 then aI (.slice (some ⟨bx, 0, none⟩) N c3b9) X2 else aI (.slice (some ⟨bx, 0, none⟩) N c3b9) X), nB w.heap.size k p n aV m cV aO op.length cO, tB (w.heap.size + 1) none 0 0 none 0 0 none 0 0, aI (.slice al AL.length cl) AL, aI (.slice ad AL.length cd) (AL.map dm), emp, tB qb10 p1b9 op.length c1b9 p2b9 op.length c2b9 (some ⟨bx, 0, none⟩) N c3b9, aI (.slice av AL.length cv) (AL.map τ), aI (.slice ai op.length ci) (op.map τ), (bif b 10 then aI (t 10) z else emp), (bif b 14 then aI (t 14) FF else emp), (bif b 15 then aI (t 15) (addL k p z FF) else emp)] ∧ (b 0 = true → t 0 = .pointer (some ⟨w.heap.size, 0, none⟩)) ∧ (b 1 = true → t 1 = .agg #[.int .i64 k, .int .i64 p, .int .i64 n]) ∧ (b 2 = true → t 2 = .agg #[.slice p1b9 op.length c1b9, .slice p2b9 op.length c2b9, .slice (some ⟨bx, 0, none⟩) N c3b9]) ∧ (b 3 = true → t 3 = .int .i64 (q : Int)) ∧ (b 4 = true → t 4 = .pointer (some ⟨w.heap.size, 0, none⟩)) ∧ (b 5 = true → t 5 = .agg #[.int .i64 k, .int .i64 p, .int .i64 n]) ∧ (b 6 = true → t 6 = .pointer (some ⟨w.heap.size, 0, none⟩)) ∧ (b 7 = true → t 7 = .agg #[.int .i64 k, .int .i64 p, .int .i64 n]) ∧ (b 8 = true → t 8 = .agg #[.slice p1b9 op.length c1b9, .slice p2b9 op.length c2b9, .slice (some ⟨bx, 0, none⟩) N c3b9]) ∧ (b 9 = true → t 9 = .int .i64 (q : Int)) ∧ (b 10 = true → ∃ x c, t 10 = .slice x W c) ∧ (b 11 = true → t 11 = .agg #[.int .i64 k, .int .i64 p, .int .i64 n, .slice aV m cV, .slice aO op.length cO]) ∧ (b 12 = true → t 12 = .slice al AL.length cl) ∧ (b 13 = true → t 13 = .slice av AL.length cv) ∧ (b 14 = true → ∃ x c, t 14 = .slice x W c) ∧ (b 15 = true → ∃ x c, t 15 = .slice x W c) ∧ (b 16 = true → t 16 = .tuple #[])) ?hFc (by kernel_rfl) (by kernel_rfl) ?hJc ?hSc ?hEc
  (case hFc => intro t; simp only [putAll, Act.put, List.setIfInBounds_toArray, List.set_cons_zero, List.set_cons_succ, Nat.reduceAdd, Nat.zero_add]; exact rfl)
  case hJc => exact ⟨hH.grow ((Ext.refl _).drew), nof, nof, nof, nof, nof, nof, nof, nof, nof, nof, nof, nof, nof, nof, nof, nof, nof⟩
  case hSc => as_aux_lemma =>
   refine st 1 rfl (fun b t wx hJ hb hd hcl Kc hK => ?_) ?_
   · obtain ⟨hH, hV⟩ := hJ
     go_simp
     apply sk hK
     · rfl
     exact ⟨hH, rp (fun _ => rfl) hV⟩
   refine st 2 rfl (fun b t wx hJ hb hd hcl Kc hK => ?_) ?_
   · obtain ⟨hH, hV⟩ := hJ
     have d0 := so hd 0; have r0 := hV.1 d0; obtain ⟨q3_0, q3_1, q3_2, _⟩ := hH.c3 3 rfl
     go_simp
     apply sk hK
     · (try simp only [r0]); rfl
     exact ⟨hH, jA (rp (fun _ => rfl)) hV⟩
   refine st 3 rfl (fun b t wx hJ hb hd hcl Kc hK => ?_) ?_
   · obtain ⟨hH, hV⟩ := hJ
     obtain ⟨q8_0, q8_1, q8_2, _⟩ := hH.c3 8 rfl
     go_simp
     apply sk hK
     · rfl
     exact ⟨hH, jB (rp (fun _ => rfl)) hV⟩
   refine st 4 rfl (fun b t wx hJ hb hd hcl Kc hK => ?_) ?_
   · obtain ⟨hH, hV⟩ := hJ
     go_simp
     apply sk hK
     · rfl
     exact ⟨hH, jB (jA (rp (fun _ => rfl))) hV⟩
   refine st 5 rfl (fun b t wx hJ hb hd hcl Kc hK => ?_) ?_
   · obtain ⟨hH, hV⟩ := hJ
     go_simp
     apply sk hK
     · rfl
     exact ⟨hH, jD (rp (fun _ => rfl)) hV⟩
   refine st 6 rfl (fun b t wx hJ hb hd hcl Kc hK => ?_) ?_
   · obtain ⟨hH, hV⟩ := hJ
     have d4 := so hd 4; have r4 := hV.2.2.2.2.1 d4; obtain ⟨q3_0, q3_1, q3_2, _⟩ := hH.c3 3 rfl
     go_simp
     apply sk hK
     · (try simp only [r4]); rfl
     exact ⟨hH, jD (jA (rp (fun _ => rfl))) hV⟩
   refine st 7 rfl (fun b t wx hJ hb hd hcl Kc hK => ?_) ?_
   · obtain ⟨hH, hV⟩ := hJ
     go_simp
     apply sk hK
     · rfl
     exact ⟨hH, jD (jB (rp (fun _ => rfl))) hV⟩
   refine st 8 rfl (fun b t wx hJ hb hd hcl Kc hK => ?_) ?_
   · obtain ⟨hH, hV⟩ := hJ
     have d6 := so hd 6; have r6 := hV.2.2.2.2.2.2.1 d6; obtain ⟨q3_0, q3_1, q3_2, _⟩ := hH.c3 3 rfl
     go_simp
     apply sk hK
     · (try simp only [r6]); rfl
     exact ⟨hH, jD (jB (jA (rp (fun _ => rfl)))) hV⟩
   refine st 9 rfl (fun b t wx hJ hb hd hcl Kc hK => ?_) ?_
   · obtain ⟨hH, hV⟩ := hJ
     obtain ⟨q8_0, q8_1, q8_2, _⟩ := hH.c3 8 rfl
     go_simp
     apply sk hK
     · rfl
     exact ⟨hH, jD (jD (rp (fun _ => rfl))) hV⟩
   refine st 10 rfl (fun b t wx hJ hb hd hcl Kc hK => ?_) ?_
   · obtain ⟨hH, hV⟩ := hJ
     go_simp
     apply sk hK
     · rfl
     exact ⟨hH, jD (jD (jA (rp (fun _ => rfl)))) hV⟩
   refine st 11 rfl (fun b t wx hJ hb hd hcl Kc hK => ?_) ?_
   · obtain ⟨hH, hV⟩ := hJ
     have d7 := so hd 7; have d8 := so hd 8; have d9 := so hd 9
     have n16 : b 16 = false := nf hb fun h => sc hcl 15 10 (sc hcl 16 15 (h))
     have r7 := hV.2.2.2.2.2.2.2.1 d7; have r8 := hV.2.2.2.2.2.2.2.2.1 d8; have r9 := hV.2.2.2.2.2.2.2.2.2.1 d9
     have hN := hH; (try simp only [hb, d7, d8, d9, n16, cond_true, cond_false] at hN)
     have hNX := hN.own (k := 2) rfl
     go_simp
     go_at_call 72
     refine (l05Get_len k p n q (q * W) W N HWW.out _ _ _ _ _ _ bx 0 c3b9 X _ HXL.out hNX.ints QW.out hq0 hw HQ3.out hcx hN99).mono ?_; rintro e10 w10 ⟨v10, rfl, o10, h10⟩
     rw [HQ4.out] at o10
     obtain ⟨x10, c10, rfl⟩ := o10.shape1 W (by have := (rawOk_iff.1 HQ5.out).1; have := HWW.out; omega)
     (try go_simp)
     apply sk hK
     · (try simp only [r7, r8, r9]); rfl
     exact ⟨by have hX := hN.addI 11 h10 o10 (Nat.le_refl _); simpa only [List.set_cons_zero, List.set_cons_succ, updB, updV, blkOf_mk, tup0_mk, partsOf3, Nat.reduceBEq, cond_true, cond_false, hb, d7, d8, d9, n16, r7, r8, r9] using hX, jD (jD (jB (rp (fun _ => ⟨_, _, rfl⟩)))) hV⟩
   refine st 12 rfl (fun b t wx hJ hb hd hcl Kc hK => ?_) ?_
   · obtain ⟨hH, hV⟩ := hJ
     obtain ⟨q3_0, q3_1, q3_2, q3_3, q3_4, _⟩ := hH.c5 3 rfl
     go_simp
     apply sk hK
     · rfl
     exact ⟨hH, jD (jD (jB (jA (rp (fun _ => rfl))))) hV⟩
   refine st 13 rfl (fun b t wx hJ hb hd hcl Kc hK => ?_) ?_
   · obtain ⟨hH, hV⟩ := hJ
     go_simp
     apply sk hK
     · rfl
     exact ⟨hH, jD (jD (jD (rp (fun _ => rfl)))) hV⟩
   refine st 14 rfl (fun b t wx hJ hb hd hcl Kc hK => ?_) ?_
   · obtain ⟨hH, hV⟩ := hJ
     go_simp
     apply sk hK
     · rfl
     exact ⟨hH, jD (jD (jD (jA (rp (fun _ => rfl))))) hV⟩
   refine st 15 rfl (fun b t wx hJ hb hd hcl Kc hK => ?_) ?_
   · obtain ⟨hH, hV⟩ := hJ
     have d10 := so hd 10; have d11 := so hd 11; have d12 := so hd 12; have d13 := so hd 13; have r10 := hV.2.2.2.2.2.2.2.2.2.2.1 d10; have r11 := hV.2.2.2.2.2.2.2.2.2.2.2.1 d11; have r12 := hV.2.2.2.2.2.2.2.2.2.2.2.2.1 d12; have r13 := hV.2.2.2.2.2.2.2.2.2.2.2.2.2.1 d13
     obtain ⟨x_10, c_10, r10⟩ := r10
     have hN := hH; (try simp only [hb, d10, d11, d12, d13, cond_true, cond_false] at hN)
     go_simp
     go_at_call 73
     refine (l12Weight_any HR.out HN.out _ _ _ (hT0.ext hH.ext) (hO0.ext hH.ext) τ HAO.out HFT.out (by omega) _ _ (hH.ints (k := 5) rfl) (hH.ints (k := 9) rfl)).mono ?_; rintro e14 w14 ⟨v14, rfl, o14, h14⟩
     rw [show (netF HR.out dm ts τ).1 = FF from HFOO.out] at o14
     obtain ⟨x14, c14, rfl⟩ := o14.shape1 W HADL.out
     (try go_simp)
     apply sk hK
     · (try simp only [r10, r11, r12, r13]); rfl
     exact ⟨by have hX := hN.addI 12 h14 o14 (Nat.le_refl _); simpa only [List.set_cons_zero, List.set_cons_succ, updB, updV, blkOf_mk, tup0_mk, partsOf3, Nat.reduceBEq, cond_true, cond_false, hb, d10, d11, d12, d13, r10, r11, r12, r13] using hX, jD (jD (jD (jB (rp (fun _ => ⟨_, _, rfl⟩))))) hV⟩
   refine st 16 rfl (fun b t wx hJ hb hd hcl Kc hK => ?_) ?_
   · obtain ⟨hH, hV⟩ := hJ
     have d5 := so hd 5; have d10 := so hd 10; have d14 := so hd 14; have r5 := hV.2.2.2.2.2.1 d5; have r10 := hV.2.2.2.2.2.2.2.2.2.2.1 d10; have r14 := hV.2.2.2.2.2.2.2.2.2.2.2.2.2.2.1 d14
     obtain ⟨x_10, c_10, r10⟩ := r10
     obtain ⟨x_14, c_14, r14⟩ := r14
     have hN := hH; (try simp only [hb, d5, d10, d14, cond_true, cond_false] at hN)
     rw [r10, r14] at hN -- d10 d14
     have hNz := hN.ints (k := 11) rfl; have hNf := hN.ints (k := 12) rfl
     go_simp
     go_at_call 71
     refine (l02Add_any k p n _ _ z FF _ HR.out hNz hNf HQ5.out HFU.out).mono ?_; rintro e15 w15 ⟨v15, rfl, o15, h15⟩
     obtain ⟨x15, c15, rfl⟩ := o15.shape1 W HADDL.out
     (try go_simp)
     apply sk hK
     · (try simp only [r5, r10, r14]); rfl
     exact ⟨by have hX := hN.addI 13 h15 o15 (Nat.le_refl _); simpa only [List.set_cons_zero, List.set_cons_succ, updB, updV, blkOf_mk, tup0_mk, partsOf3, Nat.reduceBEq, cond_true, cond_false, hb, d5, d10, d14, r5, r10, r14] using hX, jD (jD (jD (jB (jA (rp (fun _ => ⟨_, _, rfl⟩)))))) hV⟩
   refine st 17 rfl (fun b t wx hJ hb hd hcl Kc hK => ?_) ?_
   · obtain ⟨hH, hV⟩ := hJ
     have d1 := so hd 1; have d2 := so hd 2; have d3 := so hd 3; have d15 := so hd 15; have r1 := hV.2.1 d1; have r2 := hV.2.2.1 d2; have r3 := hV.2.2.2.1 d3; have r15 := hV.2.2.2.2.2.2.2.2.2.2.2.2.2.2.2.1 d15
     obtain ⟨x_15, c_15, r15⟩ := r15
     have hN := hH; (try simp only [hb, d1, d2, d3, d15, cond_true, cond_false] at hN)
     rw [r15] at hN -- d15
     have hNs := hN.ints (k := 13) rfl
     go_simp
     go_at_call 70
     refine (l05Put_len k p n q (q * W) N _ _ _ _ _ _ bx c3b9 w.heap.size _ X (addL k p z FF) _ HXL.out (hN.own (k := 2) rfl) hNs (fun s hs e => hN.others (k := 13) rfl 2 _ (by decide) rfl s (by simp [aI, hs]) (by simp [aI, Value.ownBlock, e])) QW2.out hq0 hw (by rw [HADDL.out]; exact HQ3.out) hN99).mono ?_; rintro e16 w16 ⟨rfl, o16, g16⟩
     rw [← HQ6.out] at o16
     (try go_simp)
     apply sk hK
     · (try simp only [r1, r2, r3, r15]); rfl
     exact ⟨by have hX := hN.pushed (k := 2) rfl o16 g16 (fun q hq => .inl hq); simpa only [List.set_cons_zero, List.set_cons_succ, updB, updV, blkOf_mk, tup0_mk, partsOf3, Nat.reduceBEq, cond_true, cond_false, hb, d1, d2, d3, d15, r1, r2, r3, r15] using hX, jD (jD (jD (jD (fun _ => fun _ => rfl)))) hV⟩
   exact AllSteps.nil
  intro b t wc hJ hall
  obtain ⟨hHc, v0, v1, v2, v3, v4, v5, v6, v7, v8, v9, v10, v11, v12, v13, v14, v15, v16⟩ := hJ
  have a0 := hall 0 (by decide); have a1 := hall 1 (by decide); have a2 := hall 2 (by decide); have a3 := hall 3 (by decide); have a4 := hall 4 (by decide); have a5 := hall 5 (by decide); have a6 := hall 6 (by decide); have a7 := hall 7 (by decide); have a8 := hall 8 (by decide); have a9 := hall 9 (by decide); have a10 := hall 10 (by decide); have a11 := hall 11 (by decide); have a12 := hall 12 (by decide); have a13 := hall 13 (by decide); have a14 := hall 14 (by decide); have a15 := hall 15 (by decide); have a16 := hall 16 (by decide)
  (try simp only [a0, a1, a2, a3, a4, a5, a6, a7, a8, a9, a10, a11, a12, a13, a14, a15, a16, cond_true] at hHc)
  replace v0 := v0 a0; replace v1 := v1 a1; replace v2 := v2 a2; replace v3 := v3 a3; replace v4 := v4 a4; replace v5 := v5 a5; replace v6 := v6 a6; replace v7 := v7 a7; replace v8 := v8 a8; replace v9 := v9 a9; replace v10 := v10 a10; replace v11 := v11 a11; replace v12 := v12 a12; replace v13 := v13 a13; replace v14 := v14 a14; replace v15 := v15 a15; replace v16 := v16 a16
  clear hall a0 a1 a2 a3 a4 a5 a6 a7 a8 a9 a10 a11 a12 a13 a14 a15 a16
  generalize t 16 = x16 at hHc v16 ⊢; generalize t 15 = x15 at hHc v15 ⊢; generalize t 14 = x14 at hHc v14 ⊢; generalize t 13 = x13 at hHc v13 ⊢; generalize t 12 = x12 at hHc v12 ⊢; generalize t 11 = x11 at hHc v11 ⊢; generalize t 10 = x10 at hHc v10 ⊢; generalize t 9 = x9 at hHc v9 ⊢; generalize t 8 = x8 at hHc v8 ⊢; generalize t 7 = x7 at hHc v7 ⊢; generalize t 6 = x6 at hHc v6 ⊢; generalize t 5 = x5 at hHc v5 ⊢; generalize t 4 = x4 at hHc v4 ⊢; generalize t 3 = x3 at hHc v3 ⊢; generalize t 2 = x2 at hHc v2 ⊢; generalize t 1 = x1 at hHc v1 ⊢; generalize t 0 = x0 at hHc v0 ⊢; subst v0; subst v1; subst v2; subst v3; subst v4; subst v5; subst v6; subst v7; subst v8; subst v9
  obtain ⟨xc10, cc10, rfl⟩ := v10
  subst v11; subst v12; subst v13
  obtain ⟨xc14, cc14, rfl⟩ := v14
  obtain ⟨xc15, cc15, rfl⟩ := v15
  subst v16
  clear b
  replace hH := hHc; clear hHc
  replace hH : Held w wc [aI (.slice p1b9 op.length c1b9) op, aI (.slice p2b9 op.length c2b9) (op.map dm), aI (.slice (some ⟨bx, 0, none⟩) N c3b9) X2, nB w.heap.size k p n aV m cV aO op.length cO, tB (w.heap.size + 1) none 0 0 none 0 0 none 0 0, aI (.slice al AL.length cl) AL, aI (.slice ad AL.length cd) (AL.map dm), emp, tB qb10 p1b9 op.length c1b9 p2b9 op.length c2b9 (some ⟨bx, 0, none⟩) N c3b9, aI (.slice av AL.length cv) (AL.map τ), aI (.slice ai op.length ci) (op.map τ), aI (.slice xc10 W cc10) z, aI (.slice xc14 W cc14) FF, aI (.slice xc15 W cc15) (addL k p z FF)] := hH
  replace hH : Held w wc [aI (.slice p1b9 op.length c1b9) op, aI (.slice p2b9 op.length c2b9) (op.map dm), aI (.slice (some ⟨bx, 0, none⟩) N c3b9) X2, nB w.heap.size k p n aV m cV aO op.length cO, tB (w.heap.size + 1) none 0 0 none 0 0 none 0 0, aI (.slice al AL.length cl) AL, aI (.slice ad AL.length cd) (AL.map dm), emp, tB qb10 p1b9 op.length c1b9 p2b9 op.length c2b9 (some ⟨bx, 0, none⟩) N c3b9] := hH.sub (.cons_cons _ (.cons_cons _ (.cons_cons _ (.cons_cons _ (.cons_cons _ (.cons_cons _ (.cons_cons _ (.cons_cons _ (.cons_cons _ (.cons _ (.cons _ (.cons _ (.cons _ (.cons _ .slnil))))))))))))))
  rw [← HX2.out] at hH
  go_wp2_with fail
  go_roundw
  case rel => exact ⟨o + 1, by omega, by go_num, hH⟩
  case measure => simp [RowKit.intOf]; omega
 have hoe : o = NA := by omega
 have HXF : Hid (flat (Z NA) = X) := Lib.hid (by rw [← hoe]; exact hX)
 clear hX
 subst hoe
 obtain ⟨q3_0, q3_1, q3_2, q3_3, q3_4, l3_⟩ := hH.c5 3 rfl; obtain ⟨q4_0, q4_1, q4_2, l4_⟩ := hH.c3 4 rfl; have f4_0 := hH.fr 4 0 rfl; have f4_1 := hH.fr 4 1 rfl; have f4_2 := hH.fr 4 2 rfl; obtain ⟨q8_0, q8_1, q8_2, l8_⟩ := hH.c3 8 rfl
 go_upto_region 21 with fail
 repeat go_step
 refine bodyPost_ret (v := .tuple #[.agg #[.slice p1b9 op.length c1b9, .slice p2b9 op.length c2b9, .slice (some ⟨bx, 0, none⟩) N c3b9], .bool true]) (by simp [results, Tryz.results29, go_sem, *]) rfl ?_
 have hHR := hH.setB3' (k := 4) rfl (.slice p1b9 op.length c1b9) (.slice p2b9 op.length c2b9) (.slice (some ⟨bx, 0, none⟩) N c3b9)
 rw [HXF.out]
 exact ⟨_, rfl, hHR.close3 (i := 0) (j := 1) (m := 2) rfl rfl rfl (by decide) (by decide) (by decide), hHR.ext⟩
end Go.Proofs.YtlgjddgajdjllaaGreat
