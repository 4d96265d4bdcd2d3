/- The law 'FnExactParseNetwork', walked. -/
import Derived.Test.YtlgjddgajdjllaaGreatDoorQPNetI
import Derived.Test.YtlgjddgajdjllaaGreatDoorQPNetS
set_option linter.unusedSimpArgs false
set_option linter.unusedVariables false
namespace Go.Proofs.YtlgjddgajdjllaaGreatDoor
open Go.RowKit
open Go.Lib
theorem tens_short {k p n : Int} {L D X : List Int} (h1 : tensOk k p n L D X = true) : L.length ≤ 12 ∧ D.length ≤ 12 ∧ X.length ≤ 30000 := by
  have hr := tensOk_ring h1
  have ht := (tensOk_iff hr).1 h1
  obtain ⟨P, W, _, _, _, hP, _, hW, hX⟩ := ht.nat hr
  have := ht.ax.rank; have := ht.ax.len
  have : P * W ≤ 4096 * 6 := Nat.mul_le_mul hP hW
  omega
theorem sizeT_short {k p n : Int} : ∀ {T : List Ten3}, (∀ t ∈ T, tensOk k p n t.1 t.2.1 t.2.2 = true) → sizeT T ≤ T.length * 30024
  | [], _ => by simp [sizeT]
  | t :: T, h => by
    have ih := sizeT_short (T := T) fun x hx => h x (List.mem_cons_of_mem _ hx)
    obtain ⟨a, b, c⟩ := tens_short (h t (by simp))
    rw [sizeT, List.length_cons, Nat.add_mul]; omega
theorem NP.short {s : List UInt8} {k p n : Int} {O : List Int} {T : List Ten3} {b : Bool} (h : NP s k p n O T b) : sizeT T ≤ 360288 ∧ O.length ≤ 12 := by
  rcases h.out with ⟨_, g⟩ | ⟨_, _, _, _, rfl, rfl, _⟩
  · have h1 := sizeT_short g.tens
    have h2 : T.length * 30024 ≤ 12 * 30024 := Nat.mul_le_mul_right _ g.len
    exact ⟨by omega, (netB_open g.net).2⟩
  · simp [sizeT]
theorem HeldX.marked {ex : Option Nat} {a w w' : World} {L : List Asn} {k : Nat} {v : Value} {l l' : List Int} {B : Nat} (h : HeldX ex a w L) (hk : L[k]? = some (aI v l)) (o : OwnI w' B v l') (g : w.grownBy w' v.ownBlock) : HeldX ex a w' (L.set k (aI v l')) := h.pushed hk o g fun q hq => .inl hq
set_option maxRecDepth 100000 in
set_option maxHeartbeats 4000000 in
theorem eqNetwork_any (k p n : Int) (tv ov tu ou : Value) (O : List Int) (T : List Ten3) (w : World) (hT : TensS w tv T) (hO : IntS w ov O) (hU : TensS w tu T) (hP : IntS w ou O) :
 Calls Tryz.prog 12 #[.agg #[.int .i64 k, .int .i64 p, .int .i64 n, tv, ov], .agg #[.int .i64 k, .int .i64 p, .int .i64 n, tu, ou]] w fun e w' => e = .returned (.bool true) ∧ Ext w w' := by
 have hoo : (O == O) = true := by simp
 have HOE := Lib.hid hoo; clear hoo
 obtain ⟨aV, cV, rfl, _, _⟩ := hT.val
 obtain ⟨aO, cO, rfl, _, _⟩ := hO.val
 obtain ⟨aU, cU, rfl, _, _⟩ := hU.val
 obtain ⟨aP, cP, rfl, _, _⟩ := hP.val
 go_enter Tryz.func12, Tryz.ntmps12
 go_upto_region 1 with fail
 have hH : Held w w [] := Held.new (Ext.refl w) 0
 have hB : Held w (w.alloc (.cells #[.int .i64 k, .int .i64 p, .int .i64 n, .slice aV T.length cV, .slice aO O.length cO] 29)) [aB (w.heap.size) 29 [.int .i64 k, .int .i64 p, .int .i64 n, .slice aV T.length cV, .slice aO O.length cO]] := by
  have h := (hH.mores 1).addB 0 #[.int .i64 k, .int .i64 p, .int .i64 n, .slice aV T.length cV, .slice aO O.length cO] 29
  exact h
 have hsz : (w.alloc (.cells #[.int .i64 k, .int .i64 p, .int .i64 n, .slice aV T.length cV, .slice aO O.length cO] 29)).heap.size = w.heap.size + 1 := by simp
 generalize w.alloc (.cells #[.int .i64 k, .int .i64 p, .int .i64 n, .slice aV T.length cV, .slice aO O.length cO] 29) = wn1 at hB hsz ⊢
 replace hH := hB; have HSZwn1 := Lib.hid hsz; clear hB hsz
 have hB : Held w (wn1.alloc (.cells #[.int .i64 k, .int .i64 p, .int .i64 n, .slice aU T.length cU, .slice aP O.length cP] 29)) [aB (w.heap.size) 29 [.int .i64 k, .int .i64 p, .int .i64 n, .slice aV T.length cV, .slice aO O.length cO], aB (w.heap.size + 1) 29 [.int .i64 k, .int .i64 p, .int .i64 n, .slice aU T.length cU, .slice aP O.length cP]] := by
  have h := (hH.mores 1).addB 1 #[.int .i64 k, .int .i64 p, .int .i64 n, .slice aU T.length cU, .slice aP O.length cP] 29
  rw [HSZwn1.out] at h
  exact h
 have hsz : (wn1.alloc (.cells #[.int .i64 k, .int .i64 p, .int .i64 n, .slice aU T.length cU, .slice aP O.length cP] 29)).heap.size = w.heap.size + 1 + 1 := by rw [← HSZwn1.out]; simp
 generalize wn1.alloc (.cells #[.int .i64 k, .int .i64 p, .int .i64 n, .slice aU T.length cU, .slice aP O.length cP] 29) = wn2 at hB hsz ⊢
 replace hH := hB; have HSZwn2 := Lib.hid hsz; clear hB hsz
 obtain ⟨wz, rfl⟩ : ∃ q, q = wn2 := ⟨wn2, rfl⟩
 obtain ⟨q0_0, q0_1, q0_2, q0_3, q0_4, l0_⟩ := hH.c5 0 rfl; obtain ⟨q1_0, q1_1, q1_2, q1_3, q1_4, l1_⟩ := hH.c5 1 rfl
 go_wp2_with fail
 clear q0_0 q0_1 q0_2 q0_3 q0_4 l0_ q1_0 q1_1 q1_2 q1_3 q1_4 l1_
 refine (eqRing_any k p n _).mono ?_; rintro ewn3 wn3 ⟨rfl, hwn3⟩
 replace hH : Held w wn3 [aB (w.heap.size) 29 [.int .i64 k, .int .i64 p, .int .i64 n, .slice aV T.length cV, .slice aO O.length cO], aB (w.heap.size + 1) 29 [.int .i64 k, .int .i64 p, .int .i64 n, .slice aU T.length cU, .slice aP O.length cP]] := hH.grow hwn3
 clear hwn3
 obtain ⟨q0_0, q0_1, q0_2, q0_3, q0_4, l0_⟩ := hH.c5 0 rfl; obtain ⟨q1_0, q1_1, q1_2, q1_3, q1_4, l1_⟩ := hH.c5 1 rfl
 go_wp2_with fail
 clear q0_0 q0_1 q0_2 q0_3 q0_4 l0_ q1_0 q1_1 q1_2 q1_3 q1_4 l1_
 refine (eqTensorS_any _ _ T _ (hT.ext hH.ext) (hU.ext hH.ext)).mono ?_; rintro ewn4 wn4 ⟨rfl, hwn4⟩
 replace hH : Held w wn4 [aB (w.heap.size) 29 [.int .i64 k, .int .i64 p, .int .i64 n, .slice aV T.length cV, .slice aO O.length cO], aB (w.heap.size + 1) 29 [.int .i64 k, .int .i64 p, .int .i64 n, .slice aU T.length cU, .slice aP O.length cP]] := hH.grow hwn4
 clear hwn4
 obtain ⟨q0_0, q0_1, q0_2, q0_3, q0_4, l0_⟩ := hH.c5 0 rfl; obtain ⟨q1_0, q1_1, q1_2, q1_3, q1_4, l1_⟩ := hH.c5 1 rfl
 go_wp2_with fail
 clear q0_0 q0_1 q0_2 q0_3 q0_4 l0_ q1_0 q1_1 q1_2 q1_3 q1_4 l1_
 refine (eqIntS_any _ _ O O _ (hO.ext hH.ext) (hP.ext hH.ext)).mono ?_; rintro ewn5 wn5 ⟨rfl, hwn5⟩
 rw [HOE.out]
 replace hH : Held w wn5 [aB (w.heap.size) 29 [.int .i64 k, .int .i64 p, .int .i64 n, .slice aV T.length cV, .slice aO O.length cO], aB (w.heap.size + 1) 29 [.int .i64 k, .int .i64 p, .int .i64 n, .slice aU T.length cU, .slice aP O.length cP]] := hH.grow hwn5
 clear hwn5
 have HE := Lib.hid hH.ext; clear hH
 go_wp2
 go_ret
 exact ⟨rfl, HE.out⟩
set_option maxRecDepth 100000 in
set_option maxHeartbeats 4000000 in
theorem heldNetwork_any (k p n : Int) (tv ov : Value) (T : List Ten3) (c : Nat) (q : Int) (w : World) (hT : TensS w tv (mksT q T)) (hO : IntS w ov (marks (q + sizeT T) c)) (h0 : 0 ≤ q) (hb : q + sizeT T + c ≤ 4611686018427387904) :
 Calls Tryz.prog 14 #[.agg #[.int .i64 k, .int .i64 p, .int .i64 n, tv, ov], .int .i64 q] w fun e w' => e = .returned (.int .i64 (q + sizeT T + c)) ∧ Ext w w' := by
 obtain ⟨aV, cV, hv1, _, _⟩ := hT.val
 obtain ⟨aO, cO, hv2, _, _⟩ := hO.val
 rw [mksT_length] at hv1
 rw [marks_length] at hv2
 subst hv1 hv2
 have hn1 : ¬ q + (sizeT T : Int) < 0 := by omega
 have hn2 : ¬ q + (sizeT T : Int) + (c : Int) < 0 := by omega
 go_enter Tryz.func14, Tryz.ntmps14
 go_upto_region 1 with fail
 have hH : Held w w [] := Held.new (Ext.refl w) 0
 have hB : Held w (w.alloc (.cells #[.int .i64 k, .int .i64 p, .int .i64 n, .slice aV T.length cV, .slice aO c cO] 29)) [aB (w.heap.size) 29 [.int .i64 k, .int .i64 p, .int .i64 n, .slice aV T.length cV, .slice aO c cO]] := by
  have h := (hH.mores 1).addB 0 #[.int .i64 k, .int .i64 p, .int .i64 n, .slice aV T.length cV, .slice aO c cO] 29
  exact h
 have hsz : (w.alloc (.cells #[.int .i64 k, .int .i64 p, .int .i64 n, .slice aV T.length cV, .slice aO c cO] 29)).heap.size = w.heap.size + 1 := by simp
 generalize w.alloc (.cells #[.int .i64 k, .int .i64 p, .int .i64 n, .slice aV T.length cV, .slice aO c cO] 29) = wn1 at hB hsz ⊢
 replace hH := hB; have HSZwn1 := Lib.hid hsz; clear hB hsz
 obtain ⟨wz, rfl⟩ : ∃ q, q = wn1 := ⟨wn1, rfl⟩
 obtain ⟨q0_0, q0_1, q0_2, q0_3, q0_4, l0_⟩ := hH.c5 0 rfl
 go_wp2_with fail
 clear q0_0 q0_1 q0_2 q0_3 q0_4 l0_
 refine (heldTensorS_any _ T q _ (hT.ext hH.ext) h0 (by omega)).mono ?_; rintro ewn2 wn2 ⟨rfl, hwn2⟩
 replace hH : Held w wn2 [aB (w.heap.size) 29 [.int .i64 k, .int .i64 p, .int .i64 n, .slice aV T.length cV, .slice aO c cO]] := hH.grow hwn2
 clear hwn2
 obtain ⟨q0_0, q0_1, q0_2, q0_3, q0_4, l0_⟩ := hH.c5 0 rfl
 go_wp2_with fail
 clear q0_0 q0_1 q0_2 q0_3 q0_4 l0_
 refine (heldIntS_any _ c (q + sizeT T) _ (hO.ext hH.ext) (by omega) (by omega)).mono ?_; rintro ewn3 wn3 ⟨rfl, hwn3⟩
 replace hH : Held w wn3 [aB (w.heap.size) 29 [.int .i64 k, .int .i64 p, .int .i64 n, .slice aV T.length cV, .slice aO c cO]] := hH.grow hwn3
 clear hwn3
 have HE := Lib.hid hH.ext; clear hH
 go_wp2
 go_ret
 exact ⟨rfl, HE.out⟩
set_option maxRecDepth 100000 in
set_option maxHeartbeats 4000000 in
theorem markNetwork_any {a w : World} {L : List Asn} {k1 k2 : Nat} (k p n : Int) {tv ov : Value} {cs : List (Value × Value × Value)} {O : List Int} {T : List Ten3} (h : HeldX none a w L) (h1 : L[k1]? = some (aTs tv cs T)) (h2 : L[k2]? = some (aI ov O)) (hne : k1 ≠ k2) (hap : ApartD cs) (q : Int) (h0 : 0 ≤ q) (hb : q + sizeT T + O.length ≤ 4611686018427387904) :
 Calls Tryz.prog 13 #[.agg #[.int .i64 k, .int .i64 p, .int .i64 n, tv, ov], .int .i64 q] w fun e w' => e = .returned (.int .i64 (q + sizeT T + O.length)) ∧ HeldX none a w' ((L.set k1 (aTs tv cs (mksT q T))).set k2 (aI ov (marks (q + sizeT T) O.length))) := by
 obtain ⟨aV, cV, rfl, _, _⟩ := (h.tensS h1).val
 obtain ⟨aO, cO, rfl, _, _⟩ := (h.ints h2).val
 have l1 := (List.getElem?_eq_some_iff.1 h1).1
 have l2 := (List.getElem?_eq_some_iff.1 h2).1
 obtain ⟨BX, hBX⟩ : ∃ A, aB w.heap.size 29 [.int .i64 k, .int .i64 p, .int .i64 n, .slice aV T.length cV, .slice aO O.length cO] = A := ⟨_, rfl⟩
 have hH : HeldX none a (w.alloc (.cells #[.int .i64 k, .int .i64 p, .int .i64 n, .slice aV T.length cV, .slice aO O.length cO] 29)) (L ++ [BX]) := by
  have hh := (h.mores 1).addB L.length #[.int .i64 k, .int .i64 p, .int .i64 n, .slice aV T.length cV, .slice aO O.length cO] 29
  rw [List.set_append_right _ _ (Nat.le_refl _), Nat.sub_self] at hh
  rw [← hBX]; exact hh
 have i1 : (L ++ [BX])[k1]? = some (aTs (.slice aV T.length cV) cs T) := by rw [List.getElem?_append_left l1]; exact h1
 have i3 : ((L ++ [BX]).set k1 (aTs (.slice aV T.length cV) cs (mksT q T)))[L.length]? = some BX := by
  rw [List.getElem?_set_ne (by omega), List.getElem?_append_right (Nat.le_refl _), Nat.sub_self]; rfl
 have i2 : ((L ++ [BX]).set k1 (aTs (.slice aV T.length cV) cs (mksT q T)))[k2]? = some (aI (.slice aO O.length cO) O) := by
  rw [List.getElem?_set_ne hne, List.getElem?_append_left l2]; exact h2
 have HI1 := Lib.hid i1; have HI2 := Lib.hid i2; have HI3 := Lib.hid i3; have HAP := Lib.hid hap; have HBX := Lib.hid hBX
 have HL : Hid (((L ++ [BX]).set k1 (aTs (.slice aV T.length cV) cs (mksT q T))).set k2 (aI (.slice aO O.length cO) (marks (q + sizeT T) O.length)) = (L.set k1 (aTs (.slice aV T.length cV) cs (mksT q T))).set k2 (aI (.slice aO O.length cO) (marks (q + sizeT T) O.length)) ++ [BX]) := Lib.hid (by
  rw [List.set_append_left _ _ l1, List.set_append_left _ _ (by rw [List.length_set]; exact l2)])
 clear i1 i2 i3 hap hBX h h1 h2
 go_enter Tryz.func13, Tryz.ntmps13
 go_wp2_with fail
 refine (markTensorS_any hH HI1.out HAP.out q h0 (by omega)).mono ?_; rintro e1 w1 ⟨rfl, hH1⟩
 have hb1 : Blk w1 w.heap.size 29 [.int .i64 k, .int .i64 p, .int .i64 n, .slice aV T.length cV, .slice aO O.length cO] := by
  exact hH1.blk (HI3.out.trans (by rw [HBX.out]))
 have b4 := hb1.cell (j := 4) rfl
 have bl := hb1.lt
 go_wp2_with fail
 refine (markIntS_any 0 _ O (q + sizeT T) _ (hH1.own HI2.out).zero (by omega) (by omega)).mono ?_; rintro e2 w2 ⟨rfl, o2, g2⟩
 have hH2 := hH1.marked HI2.out o2 g2
 rw [HL.out] at hH2
 have HH := Lib.hid (hH2.sub (List.sublist_append_left _ _)); clear hH2 hH1 hb1 hH b4
 go_wp2
 go_ret
 exact ⟨rfl, HH.out⟩
set_option maxRecDepth 100000 in
set_option maxHeartbeats 8000000 in
theorem walkFnExactParseNetwork (s : ByteArray) (w : World) (hT : AllV w) (hs : s.size ≤ maxLen) :
 Calls Tryz.prog 4 #[.string s] w fun e w' => e = .returned (.bool true) ∧ Ext w w' := by
 have hs' : s.size ≤ 9223372036854775807 := hs
 clear hs
 by_cases hbig : 1048576 < s.size
 · go_enter Tryz.func4, Tryz.ntmps4
   go_wp2
   go_ret
   exact ⟨rfl, (by repeat' (first | (with_reducible first | exact Ext.refl _ | assumption | apply Ext.alloc | apply Ext.drew | apply Ext.drewN) | (refine Ext.setAt ?_ (by omega) _ _) | (refine Ext.trans ?_ (by assumption))))⟩
 have hkk : ∀ b : Bool, (b != b) = false := by decide
 have HKK := Lib.hid hkk
 clear hkk
 have hH : Held w w [] := Held.new (Ext.refl w) 0
 go_enter Tryz.func4, Tryz.ntmps4
 go_wp2_with fail
 refine (parseNetwork_spec s _ (by omega)).mono ?_; rintro ewn1 wn1 ⟨⟨k, p, n, tv, ov, cs0, O, T, b, rfl, hnp, hJ, hap⟩⟩
 have HNP := Lib.hid hnp; obtain ⟨hsz1, hsz2⟩ := hnp.short; clear hnp
 obtain ⟨aP0, cP0, rfl, _, _⟩ := (hJ.ints (k := 0) rfl).val
 obtain ⟨aK0, cK0, rfl, _, _⟩ := (hJ.tensS (k := 1) rfl).val
 have HAP0 := Lib.hid hap; clear hap
 replace hH : Held w wn1 [aI (.slice aP0 O.length cP0) O, aTs (.slice aK0 T.length cK0) cs0 T] := hH.join hJ (fun q hq => by cases hq)
 clear hJ
 have hok := HKK.out b
 go_upto_region 4 with fail
 have hB : Held w (wn1.alloc (.cells #[.int .i64 k, .int .i64 p, .int .i64 n, .slice aK0 T.length cK0, .slice aP0 O.length cP0] 29)) [aI (.slice aP0 O.length cP0) O, aTs (.slice aK0 T.length cK0) cs0 T, aB (wn1.heap.size) 29 [.int .i64 k, .int .i64 p, .int .i64 n, .slice aK0 T.length cK0, .slice aP0 O.length cP0]] := by
  have h := (hH.mores 1).addB 2 #[.int .i64 k, .int .i64 p, .int .i64 n, .slice aK0 T.length cK0, .slice aP0 O.length cP0] 29
  exact h
 have hsz : (wn1.alloc (.cells #[.int .i64 k, .int .i64 p, .int .i64 n, .slice aK0 T.length cK0, .slice aP0 O.length cP0] 29)).heap.size = wn1.heap.size + 1 := by simp
 generalize wn1.alloc (.cells #[.int .i64 k, .int .i64 p, .int .i64 n, .slice aK0 T.length cK0, .slice aP0 O.length cP0] 29) = wn2 at hB hsz ⊢
 replace hH := hB; have HSZwn2 := Lib.hid hsz; clear hB hsz
 obtain ⟨wa, rfl⟩ : ∃ q, q = wn2 := ⟨wn2, rfl⟩
 obtain ⟨q2_0, q2_1, q2_2, q2_3, q2_4, l2_⟩ := hH.c5 2 rfl
 go_wp2_with fail
 clear q2_0 q2_1 q2_2 q2_3 q2_4 l2_
 refine (parseNetwork_impl s _ (by omega) (hT.ext hH.ext)).mono ?_; rintro ewn3 wn3 ⟨⟨k', p', n', tv, ov, cs1, O', T', b', rfl, hnp, hJ, hap⟩⟩
 obtain ⟨rfl, rfl, rfl, rfl, rfl, rfl⟩ := HNP.out.one hnp
 clear hnp
 obtain ⟨aP1, cP1, rfl, _, _⟩ := (hJ.ints (k := 0) rfl).val
 obtain ⟨aK1, cK1, rfl, _, _⟩ := (hJ.tensS (k := 1) rfl).val
 have HAP1 := Lib.hid hap; clear hap
 replace hH : Held w wn3 [aI (.slice aP0 O.length cP0) O, aTs (.slice aK0 T.length cK0) cs0 T, aB (wn1.heap.size) 29 [.int .i64 k, .int .i64 p, .int .i64 n, .slice aK0 T.length cK0, .slice aP0 O.length cP0], aI (.slice aP1 O.length cP1) O, aTs (.slice aK1 T.length cK1) cs1 T] := hH.join hJ (fun q hq => by cases hq)
 clear hJ
 obtain ⟨q2_0, q2_1, q2_2, q2_3, q2_4, l2_⟩ := hH.c5 2 rfl
 go_upto_region 5 with fail
 clear q2_0 q2_1 q2_2 q2_3 q2_4 l2_
 have hB : Held w (wn3.alloc (.cells #[.int .i64 k, .int .i64 p, .int .i64 n, .slice aK1 T.length cK1, .slice aP1 O.length cP1] 29)) [aI (.slice aP0 O.length cP0) O, aTs (.slice aK0 T.length cK0) cs0 T, aB (wn1.heap.size) 29 [.int .i64 k, .int .i64 p, .int .i64 n, .slice aK0 T.length cK0, .slice aP0 O.length cP0], aI (.slice aP1 O.length cP1) O, aTs (.slice aK1 T.length cK1) cs1 T, aB (wn3.heap.size) 29 [.int .i64 k, .int .i64 p, .int .i64 n, .slice aK1 T.length cK1, .slice aP1 O.length cP1]] := by
  have h := (hH.mores 1).addB 5 #[.int .i64 k, .int .i64 p, .int .i64 n, .slice aK1 T.length cK1, .slice aP1 O.length cP1] 29
  exact h
 have hsz : (wn3.alloc (.cells #[.int .i64 k, .int .i64 p, .int .i64 n, .slice aK1 T.length cK1, .slice aP1 O.length cP1] 29)).heap.size = wn3.heap.size + 1 := by simp
 generalize wn3.alloc (.cells #[.int .i64 k, .int .i64 p, .int .i64 n, .slice aK1 T.length cK1, .slice aP1 O.length cP1] 29) = wn4 at hB hsz ⊢
 replace hH := hB; have HSZwn4 := Lib.hid hsz; clear hB hsz
 obtain ⟨wb, rfl⟩ : ∃ q, q = wn4 := ⟨wn4, rfl⟩
 obtain ⟨q2_0, q2_1, q2_2, q2_3, q2_4, l2_⟩ := hH.c5 2 rfl; obtain ⟨q5_0, q5_1, q5_2, q5_3, q5_4, l5_⟩ := hH.c5 5 rfl
 go_wp2_with fail
 clear q2_0 q2_1 q2_2 q2_3 q2_4 l2_ q5_0 q5_1 q5_2 q5_3 q5_4 l5_
 refine (eqNetwork_any k p n _ _ _ _ O T _ (hH.tensS (k := 4) rfl) (hH.ints (k := 3) rfl) (hH.tensS (k := 1) rfl) (hH.ints (k := 0) rfl)).mono ?_; rintro ewn5 wn5 ⟨rfl, hwn5⟩
 replace hH : Held w wn5 [aI (.slice aP0 O.length cP0) O, aTs (.slice aK0 T.length cK0) cs0 T, aB (wn1.heap.size) 29 [.int .i64 k, .int .i64 p, .int .i64 n, .slice aK0 T.length cK0, .slice aP0 O.length cP0], aI (.slice aP1 O.length cP1) O, aTs (.slice aK1 T.length cK1) cs1 T, aB (wn3.heap.size) 29 [.int .i64 k, .int .i64 p, .int .i64 n, .slice aK1 T.length cK1, .slice aP1 O.length cP1]] := hH.grow hwn5
 clear hwn5
 obtain ⟨q2_0, q2_1, q2_2, q2_3, q2_4, l2_⟩ := hH.c5 2 rfl; obtain ⟨q5_0, q5_1, q5_2, q5_3, q5_4, l5_⟩ := hH.c5 5 rfl
 go_wp2_with fail
 clear q2_0 q2_1 q2_2 q2_3 q2_4 l2_ q5_0 q5_1 q5_2 q5_3 q5_4 l5_
 refine (markNetwork_any k p n hH (k1 := 4) (k2 := 3) rfl rfl (by decide) HAP1.out 1 (by omega) (by omega)).mono ?_; rintro ewn6 wn6 ⟨rfl, hHm⟩
 replace hH : Held w wn6 [aI (.slice aP0 O.length cP0) O, aTs (.slice aK0 T.length cK0) cs0 T, aB (wn1.heap.size) 29 [.int .i64 k, .int .i64 p, .int .i64 n, .slice aK0 T.length cK0, .slice aP0 O.length cP0], aI (.slice aP1 O.length cP1) (marks (1 + sizeT T) O.length), aTs (.slice aK1 T.length cK1) cs1 (mksT 1 T), aB (wn3.heap.size) 29 [.int .i64 k, .int .i64 p, .int .i64 n, .slice aK1 T.length cK1, .slice aP1 O.length cP1]] := hHm
 clear hHm
 have hz1 : ¬ (1 : Int) + (sizeT T : Int) + (O.length : Int) < 0 := by omega
 obtain ⟨q2_0, q2_1, q2_2, q2_3, q2_4, l2_⟩ := hH.c5 2 rfl; obtain ⟨q5_0, q5_1, q5_2, q5_3, q5_4, l5_⟩ := hH.c5 5 rfl
 go_wp2_with fail
 clear q2_0 q2_1 q2_2 q2_3 q2_4 l2_ q5_0 q5_1 q5_2 q5_3 q5_4 l5_
 refine (heldNetwork_any k p n _ _ T O.length 1 _ (hH.tensS (k := 4) rfl) (hH.ints (k := 3) rfl) (by omega) (by omega)).mono ?_; rintro ewn7 wn7 ⟨rfl, hwn7⟩
 replace hH : Held w wn7 [aI (.slice aP0 O.length cP0) O, aTs (.slice aK0 T.length cK0) cs0 T, aB (wn1.heap.size) 29 [.int .i64 k, .int .i64 p, .int .i64 n, .slice aK0 T.length cK0, .slice aP0 O.length cP0], aI (.slice aP1 O.length cP1) (marks (1 + sizeT T) O.length), aTs (.slice aK1 T.length cK1) cs1 (mksT 1 T), aB (wn3.heap.size) 29 [.int .i64 k, .int .i64 p, .int .i64 n, .slice aK1 T.length cK1, .slice aP1 O.length cP1]] := hH.grow hwn7
 clear hwn7
 obtain ⟨q2_0, q2_1, q2_2, q2_3, q2_4, l2_⟩ := hH.c5 2 rfl; obtain ⟨q5_0, q5_1, q5_2, q5_3, q5_4, l5_⟩ := hH.c5 5 rfl
 go_wp2_with fail
 clear q2_0 q2_1 q2_2 q2_3 q2_4 l2_ q5_0 q5_1 q5_2 q5_3 q5_4 l5_
 refine (parseNetwork_impl s _ (by omega) (hT.ext hH.ext)).mono ?_; rintro ewn8 wn8 ⟨⟨k', p', n', tv, ov, cs2, O', T', b', rfl, hnp, hJ, hap⟩⟩
 obtain ⟨rfl, rfl, rfl, rfl, rfl, rfl⟩ := HNP.out.one hnp
 clear hnp
 obtain ⟨aP2, cP2, rfl, _, _⟩ := (hJ.ints (k := 0) rfl).val
 obtain ⟨aK2, cK2, rfl, _, _⟩ := (hJ.tensS (k := 1) rfl).val
 have HAP2 := Lib.hid hap; clear hap
 replace hH : Held w wn8 [aI (.slice aP0 O.length cP0) O, aTs (.slice aK0 T.length cK0) cs0 T, aB (wn1.heap.size) 29 [.int .i64 k, .int .i64 p, .int .i64 n, .slice aK0 T.length cK0, .slice aP0 O.length cP0], aI (.slice aP1 O.length cP1) (marks (1 + sizeT T) O.length), aTs (.slice aK1 T.length cK1) cs1 (mksT 1 T), aB (wn3.heap.size) 29 [.int .i64 k, .int .i64 p, .int .i64 n, .slice aK1 T.length cK1, .slice aP1 O.length cP1], aI (.slice aP2 O.length cP2) O, aTs (.slice aK2 T.length cK2) cs2 T] := hH.join hJ (fun q hq => by cases hq)
 clear hJ
 obtain ⟨q2_0, q2_1, q2_2, q2_3, q2_4, l2_⟩ := hH.c5 2 rfl; obtain ⟨q5_0, q5_1, q5_2, q5_3, q5_4, l5_⟩ := hH.c5 5 rfl
 go_upto_region 16 with fail
 clear q2_0 q2_1 q2_2 q2_3 q2_4 l2_ q5_0 q5_1 q5_2 q5_3 q5_4 l5_
 have hB : Held w (wn8.alloc (.cells #[.int .i64 k, .int .i64 p, .int .i64 n, .slice aK2 T.length cK2, .slice aP2 O.length cP2] 29)) [aI (.slice aP0 O.length cP0) O, aTs (.slice aK0 T.length cK0) cs0 T, aB (wn1.heap.size) 29 [.int .i64 k, .int .i64 p, .int .i64 n, .slice aK0 T.length cK0, .slice aP0 O.length cP0], aI (.slice aP1 O.length cP1) (marks (1 + sizeT T) O.length), aTs (.slice aK1 T.length cK1) cs1 (mksT 1 T), aB (wn3.heap.size) 29 [.int .i64 k, .int .i64 p, .int .i64 n, .slice aK1 T.length cK1, .slice aP1 O.length cP1], aI (.slice aP2 O.length cP2) O, aTs (.slice aK2 T.length cK2) cs2 T, aB (wn8.heap.size) 29 [.int .i64 k, .int .i64 p, .int .i64 n, .slice aK2 T.length cK2, .slice aP2 O.length cP2]] := by
  have h := (hH.mores 1).addB 8 #[.int .i64 k, .int .i64 p, .int .i64 n, .slice aK2 T.length cK2, .slice aP2 O.length cP2] 29
  exact h
 have hsz : (wn8.alloc (.cells #[.int .i64 k, .int .i64 p, .int .i64 n, .slice aK2 T.length cK2, .slice aP2 O.length cP2] 29)).heap.size = wn8.heap.size + 1 := by simp
 generalize wn8.alloc (.cells #[.int .i64 k, .int .i64 p, .int .i64 n, .slice aK2 T.length cK2, .slice aP2 O.length cP2] 29) = wn9 at hB hsz ⊢
 replace hH := hB; have HSZwn9 := Lib.hid hsz; clear hB hsz
 obtain ⟨wc, rfl⟩ : ∃ q, q = wn9 := ⟨wn9, rfl⟩
 obtain ⟨q2_0, q2_1, q2_2, q2_3, q2_4, l2_⟩ := hH.c5 2 rfl; obtain ⟨q5_0, q5_1, q5_2, q5_3, q5_4, l5_⟩ := hH.c5 5 rfl; obtain ⟨q8_0, q8_1, q8_2, q8_3, q8_4, l8_⟩ := hH.c5 8 rfl
 go_wp2_with fail
 clear q2_0 q2_1 q2_2 q2_3 q2_4 l2_ q5_0 q5_1 q5_2 q5_3 q5_4 l5_ q8_0 q8_1 q8_2 q8_3 q8_4 l8_
 refine (eqNetwork_any k p n _ _ _ _ O T _ (hH.tensS (k := 7) rfl) (hH.ints (k := 6) rfl) (hH.tensS (k := 1) rfl) (hH.ints (k := 0) rfl)).mono ?_; rintro ewn10 wn10 ⟨rfl, hwn10⟩
 replace hH : Held w wn10 [aI (.slice aP0 O.length cP0) O, aTs (.slice aK0 T.length cK0) cs0 T, aB (wn1.heap.size) 29 [.int .i64 k, .int .i64 p, .int .i64 n, .slice aK0 T.length cK0, .slice aP0 O.length cP0], aI (.slice aP1 O.length cP1) (marks (1 + sizeT T) O.length), aTs (.slice aK1 T.length cK1) cs1 (mksT 1 T), aB (wn3.heap.size) 29 [.int .i64 k, .int .i64 p, .int .i64 n, .slice aK1 T.length cK1, .slice aP1 O.length cP1], aI (.slice aP2 O.length cP2) O, aTs (.slice aK2 T.length cK2) cs2 T, aB (wn8.heap.size) 29 [.int .i64 k, .int .i64 p, .int .i64 n, .slice aK2 T.length cK2, .slice aP2 O.length cP2]] := hH.grow hwn10
 clear hwn10
 obtain ⟨q2_0, q2_1, q2_2, q2_3, q2_4, l2_⟩ := hH.c5 2 rfl; obtain ⟨q5_0, q5_1, q5_2, q5_3, q5_4, l5_⟩ := hH.c5 5 rfl; obtain ⟨q8_0, q8_1, q8_2, q8_3, q8_4, l8_⟩ := hH.c5 8 rfl
 go_wp2_with fail
 clear q2_0 q2_1 q2_2 q2_3 q2_4 l2_ q5_0 q5_1 q5_2 q5_3 q5_4 l5_ q8_0 q8_1 q8_2 q8_3 q8_4 l8_
 refine (heldNetwork_any k p n _ _ T O.length 1 _ (hH.tensS (k := 4) rfl) (hH.ints (k := 3) rfl) (by omega) (by omega)).mono ?_; rintro ewn11 wn11 ⟨rfl, hwn11⟩
 replace hH : Held w wn11 [aI (.slice aP0 O.length cP0) O, aTs (.slice aK0 T.length cK0) cs0 T, aB (wn1.heap.size) 29 [.int .i64 k, .int .i64 p, .int .i64 n, .slice aK0 T.length cK0, .slice aP0 O.length cP0], aI (.slice aP1 O.length cP1) (marks (1 + sizeT T) O.length), aTs (.slice aK1 T.length cK1) cs1 (mksT 1 T), aB (wn3.heap.size) 29 [.int .i64 k, .int .i64 p, .int .i64 n, .slice aK1 T.length cK1, .slice aP1 O.length cP1], aI (.slice aP2 O.length cP2) O, aTs (.slice aK2 T.length cK2) cs2 T, aB (wn8.heap.size) 29 [.int .i64 k, .int .i64 p, .int .i64 n, .slice aK2 T.length cK2, .slice aP2 O.length cP2]] := hH.grow hwn11
 clear hwn11
 have HE := Lib.hid hH.ext; clear hH
 go_wp2
 go_ret
 exact ⟨rfl, HE.out⟩
end Go.Proofs.YtlgjddgajdjllaaGreatDoor
