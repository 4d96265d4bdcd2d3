/- FormatTensor of the program. -/
import Derived.Test.YtlgjddgajdjllaaGreatDoorQG5
import Derived.Test.YtlgjddgajdjllaaGreatDoorQTenW
set_option linter.unusedSimpArgs false
set_option linter.unusedVariables false
namespace Go.Proofs.YtlgjddgajdjllaaGreatDoor
open Go.RowKit
open Go.Lib
theorem zip_take {α β γ : Type} (f : α → β → γ) {l : List α} {m : List β} {j : Nat} {a : α} {b : β} (ha : l[j]? = some a) (hb : m[j]? = some b) : (List.zipWith f l m).take (j + 1) = (List.zipWith f l m).take j ++ [f a b] := by
  obtain ⟨h1, rfl⟩ := List.getElem?_eq_some_iff.1 ha
  obtain ⟨h2, rfl⟩ := List.getElem?_eq_some_iff.1 hb
  rw [List.take_succ_eq_append_getElem (by rw [List.length_zipWith]; omega), List.getElem_zipWith]
theorem mkSs_list (l : List (List UInt8)) : (mkSs l).map (·.data.toList) = l := by
  induction l with
  | nil => rfl
  | cons a l ih => simpa [mkSs, mkS_list] using ih
theorem axTok_str {l d : Int} {z y : ByteArray} (hz : mkS (itoa l) = z) (hy : mkS (itoa d) = y) : mkS (axTok l d) = z ++ ⟨#[58]⟩ ++ y := by
  subst hz hy
  apply str_eq
  rw [append_bytes, append_bytes, mkS_list, mkS_list, mkS_list]
  simp [axTok]
theorem tok_sizes {T : List (List UInt8)} {c : Nat} : (∀ t ∈ T, t.length ≤ c) → sizeStr (mkSs T) ≤ T.length * c := by
  induction T with
  | nil => intro _; simp [mkSs, sizeStr]
  | cons t T ih =>
    intro h
    have h1 := h t (by simp)
    have h2 := ih fun x hx => h x (by simp [hx])
    rw [show mkSs (t :: T) = mkS t :: mkSs T from rfl, sizeStr_cons, mkS_size, List.length_cons, Nat.add_mul]
    omega
theorem fmtL_len : ∀ {x : List Int}, (∀ v ∈ x, isI64 v) → (fmtL 44 x).length ≤ x.length * 21
  | [], _ => by simp [fmtL, join]
  | [a], h => by
    have := (itoa_len (h a (by simp))).2
    simp [fmtL, join]; omega
  | a :: b :: l, h => by
    have h1 := (itoa_len (h a (by simp))).2
    have h2 := fmtL_len (x := b :: l) fun v hv => h v (List.mem_cons_of_mem _ hv)
    have e : fmtL 44 (a :: b :: l) = itoa a ++ [44] ++ fmtL 44 (b :: l) := by simp [fmtL, join]
    rw [e]
    simp only [List.length_append, List.length_cons, List.length_nil] at h2 ⊢
    omega
theorem axTok_len {l d : Int} (hl : isI64 l) (hd : isI64 d) : (axTok l d).length ≤ 41 := by
  have h1 := (itoa_len hl).2
  have h2 := (itoa_len hd).2
  simp [axTok]; omega
theorem toks_len {k p n : Int} {L D X : List Int} (hr : ringOk k p n = true) (h : TOk k p n L D X) :
    (tenToks (ringWidth k n).toNat (prodL D).toNat L D X).length ≤ 4109 ∧ (∀ t ∈ tenToks (ringWidth k n).toNat (prodL D).toNat L D X, t.length ≤ 126) := by
  obtain ⟨hl, hc⟩ := h.chunks_ok hr
  have hs := h.ax.size
  have hk := h.ax.rank
  constructor
  · rw [tenToks, List.length_append, List.length_cons, List.length_map, chunks_length, List.length_zipWith]
    have := h.ax.pos
    omega
  · intro t ht
    rw [tenToks, List.mem_append, List.mem_cons] at ht
    rcases ht with ht | rfl | ht
    · obtain ⟨i, hi, rfl⟩ := List.mem_iff_getElem.1 ht
      rw [List.getElem_zipWith]
      rw [List.length_zipWith] at hi
      have a := h.ax.labs L[i] (List.getElem_mem (by omega))
      have b := h.ax.dims D[i] (List.getElem_mem (by omega))
      have := axTok_len (l := L[i]) (d := D[i]) (by unfold isI64; omega) (by unfold isI64; omega)
      omega
    · simp
    · obtain ⟨x, hx, rfl⟩ := List.mem_map.1 ht
      obtain ⟨h1, h2⟩ := elemOk_i64 (hc x hx)
      have := fmtL_len h1
      omega
structure Toks (k p n : Int) (P W : Nat) (L D X : List Int) : Prop where
  axes : ∀ {j : Nat} {x d : Int}, L[j]? = some x → D[j]? = some d → isI64 x ∧ isI64 d
  elem : ∀ {j : Nat}, j < P → (∀ v ∈ getL X (j * W) W, isI64 v) ∧ (getL X (j * W) W).length = W ∧ elemOk k p n (getL X (j * W) W) = true
  fit : ∀ {j : Nat}, j < P → j * W + W ≤ P * W
  len : (tenToks W P L D X).length ≤ 4109
  size : sizeStr (mkSs (tenToks W P L D X)) ≤ 4109 * 126
theorem TOk.toks {k p n : Int} {P W : Nat} {L D X : List Int} (hr : ringOk k p n = true) (h : TOk k p n L D X) (hP : prodL D = P) (hW : ringWidth k n = W) : Toks k p n P W L D X := by
  obtain ⟨t1, t2⟩ := toks_len hr h
  obtain ⟨hl, hc⟩ := h.chunks_ok hr
  have e1 : (prodL D).toNat = P := by omega
  have e2 : (ringWidth k n).toNat = W := by omega
  rw [e1, e2] at t1 t2 hl hc
  refine ⟨fun hx hd => ?_, fun hj => ?_, fun hj => ?_, t1, ?_⟩
  · have a := h.ax.labs _ (List.mem_of_getElem? hx)
    have b := h.ax.dims _ (List.mem_of_getElem? hd)
    unfold isI64; omega
  · have hm := List.mem_of_getElem? (chunks_get W (X := X) hj)
    exact ⟨(elemOk_i64 (hc _ hm)).1, (chunks_mem hl hm).1, hc _ hm⟩
  · rename_i j
    have : (j + 1) * W ≤ P * W := Nat.mul_le_mul_right _ (by omega)
    rwa [Nat.succ_mul] at this
  · have := tok_sizes t2
    have : (tenToks W P L D X).length * 126 ≤ 4109 * 126 := Nat.mul_le_mul_right _ t1
    omega
set_option maxRecDepth 100000 in
set_option maxHeartbeats 2000000 in
theorem formatTensor_impl (k p n : Int) (v : Value) (L D X : List Int) (w : World) (hv : TenS w v L D X) (hT : Tab w) : Calls Tryz.prog 25 #[ringV k p n, v] w fun e w' =>
 e = .returned (.string (mkS (fmtTen k p n L D X))) ∧ Ext w w' := by
 have hv0 := hv
 obtain ⟨p1, n1, c1, p2, n2, c2, p3, n3, c3, rfl⟩ := hv.shape
 cases hok : tensOk k p n L D X
 · have HZ := Lib.hid (fmtTen_no hok)
   go_enter Tryz.func25, Tryz.ntmps25
   go_wp2_with fail
   refine (tensorOk_impl k p n _ L D X _ (hv0.ext (by repeat' (first | (with_reducible first | exact Ext.refl _ | assumption | apply Ext.alloc | apply Ext.drew | apply Ext.drewN) | (refine Ext.setAt ?_ (by omega) _ _) | (refine Ext.trans ?_ (by assumption)))))).mono ?_; rintro e1 w1 ⟨rfl, h1⟩; rw [hok]
   go_wp2
   go_ret
   exact ⟨ret_str (by rw [mkS_list, HZ.out]), (by repeat' (first | (with_reducible first | exact Ext.refl _ | assumption | apply Ext.alloc | apply Ext.drew | apply Ext.drewN) | (refine Ext.setAt ?_ (by omega) _ _) | (refine Ext.trans ?_ (by assumption))))⟩
 obtain ⟨_, _, _, hvv, hL, hD, hX⟩ := hv.val
 simp at hvv
 obtain ⟨rfl, rfl, rfl⟩ := hvv
 have hr := tensOk_ring hok
 have ht := (tensOk_iff hr).1 hok
 obtain ⟨P, W, hP, hW, hP1, hP2, hW1, hW6, hXl⟩ := ht.nat hr
 have TK := Lib.hid (ht.toks hr hP hW)
 obtain ⟨bd, off, cd, e3, hcd, hcd2, hbd⟩ := hX.open (by rw [hXl]; have : 1 * 1 ≤ P * W := Nat.mul_le_mul hP1 hW1; omega)
 simp at e3
 obtain ⟨rfl, rfl, rfl⟩ := e3
 obtain ⟨_, _, e1, _, _⟩ := hL.val
 simp at e1
 obtain ⟨rfl, rfl, rfl⟩ := e1
 obtain ⟨_, _, e2, hcD, _⟩ := hD.val
 simp at e2
 obtain ⟨rfl, rfl, rfl⟩ := e2
 have HLen := Lib.hid ht.ax.len
 have hrk := ht.ax.rank
 have RES : Hid (fmtTen k p n L D X = join (tenToks W P L D X) [32]) := Lib.hid (by
  rw [fmtTen_yes hok, show (ringWidth k n).toNat = W by omega, show (prodL D).toNat = P by omega])
 have HOK := Lib.hid hok; have AX := Lib.hid ht.ax; have HXL := Lib.hid hXl; have HW := Lib.hid hW; have HP := Lib.hid hP
 have hw := ringOk_wide hr
 obtain ⟨T, hTT⟩ : ∃ T, List.zipWith axTok L D = T := ⟨_, rfl⟩
 have HTL : Hid (T.length = L.length) := Lib.hid (by rw [← hTT, List.length_zipWith]; have := HLen.out; omega)
 have HTT := Lib.hid hTT
 clear hok ht hXl hW hP hTT hr hv
 go_enter Tryz.func25, Tryz.ntmps25
 go_wp2_with fail
 refine (tensorOk_impl k p n _ L D X _ (hv0.ext (by repeat' (first | (with_reducible first | exact Ext.refl _ | assumption | apply Ext.alloc | apply Ext.drew | apply Ext.drewN) | (refine Ext.setAt ?_ (by omega) _ _) | (refine Ext.trans ?_ (by assumption)))))).mono ?_; rintro e1 w1 ⟨rfl, h1⟩; rw [HOK.out]; have s1 := h1.size; (try simp at s1); have t1_0 : w.heap.size < w1.heap.size := (by omega); have c1_0 := fun o => h1.cells (w.heap.size) o (by first | (simp; done) | (simp; omega) | omega); have t1_1 : w.heap.size + 1 < w1.heap.size := (by omega); have c1_1 := fun o => h1.cells (w.heap.size + 1) o (by first | (simp; done) | (simp; omega) | omega)
 have E1 : Ext w w1 := (by repeat' (first | (with_reducible first | exact Ext.refl _ | assumption | apply Ext.alloc | apply Ext.drew | apply Ext.drewN) | (refine Ext.setAt ?_ (by omega) _ _) | (refine Ext.trans ?_ (by assumption))))
 have BT : Blk w1 (w.heap.size + 1) 52 [.slice p1 L.length c1, .slice p2 D.length c2, .slice (some ⟨bd, off, none⟩) X.length c3] := by
  have := Blk.new (w.alloc (.cells #[.int .i64 k, .int .i64 p, .int .i64 n] 24)) #[.slice p1 L.length c1, .slice p2 D.length c2, .slice (some ⟨bd, off, none⟩) X.length c3] 52
  simpa using this.ext h1
 have BK : Blk w1 w.heap.size 24 [.int .i64 k, .int .i64 p, .int .i64 n] := Blk.ext (w' := w1) (Blk.new w #[.int .i64 k, .int .i64 p, .int .i64 n] 24) (Ext.trans ((Ext.refl _).alloc _) h1)
 have hL1 := hL.ext E1
 have hD1 := hD.ext E1
 have hX1 := hX.ext E1
 have hT1 := hT.ext E1
 have t0 := BT.cell (j := 0) rfl
 clear c1_0 c1_1 h1
 go_wp2_with fail
 go_loopw [5, 16] (fun q i wr => ∃ j : Nat, j ≤ L.length ∧ i = .int .i64 j ∧ OwnStr wr w1.heap.size q (mkSs (T.take j)) ∧ Ext w1 wr) (fun q i _ => L.length - (RowKit.intOf i).toNat)
 case atStart => exact ⟨0, Nat.zero_le _, rfl, OwnStr.nil _ _, Ext.refl _⟩
 case round =>
  obtain ⟨j, hj, rfl, hQ, hE⟩ := hrel
  obtain ⟨aq, cq, rfl, hq1, hq2⟩ := hQ.strs.val
  have hql : (mkSs (T.take j)).length = j := by rw [mkSs_length, List.length_take, HTL.out]; omega
  rw [hql] at hQ hq1 ⊢
  have HQL := Lib.hid hql
  have hBr := BT.ext hE
  have hsE := hE.size
  clear hql
  by_cases hlt : j < L.length
  · obtain ⟨b, o, x, rfl, hcell, hx, _⟩ := (hL1.ext hE).get hlt
    obtain ⟨b2, o2, d, rfl, hcell2, hd, _⟩ := (hD1.ext hE).get (i := j) (by have := HLen.out; omega)
    obtain ⟨x64, d64⟩ := TK.out.axes hx hd
    have HXD : Hid (T.take (j + 1) = T.take j ++ [axTok x d]) := Lib.hid (by rw [← HTT.out]; exact zip_take axTok hx hd)
    obtain ⟨z, hz⟩ : ∃ z, mkS (itoa x) = z := ⟨_, rfl⟩
    obtain ⟨y, hy⟩ : ∃ y, mkS (itoa d) = y := ⟨_, rfl⟩
    have hzs : z.size ≤ 20 := by rw [← hz, mkS_size]; exact (itoa_len x64).2
    have hys : y.size ≤ 20 := by rw [← hy, mkS_size]; exact (itoa_len d64).2
    have HAX := Lib.hid (axTok_str hz hy)
    have hns1 : ¬ 9223372036854775807 < z.size + 1 := by omega
    have hns2 : ¬ 9223372036854775807 < z.size + 1 + y.size := by omega
    have HZ := Lib.hid hz; have HY := Lib.hid hy
    have i1 := hBr.cell (j := 1) rfl
    have hTr := hT1.ext hE
    have D0 : Ext wr wr.drew := (Ext.refl _).drew
    have hb1 : ∀ q, (Value.slice aq j cq).ownBlock = some q → w1.heap.size ≤ q := fun q hq => (hQ.block_lt hq).1
    have HB1 := Lib.hid hb1
    have hjd : j < D.length := by have := HLen.out; omega
    clear hx hd hz hy hb1
    go_wp2_with fail
    go_region_law (first | (go_simp; go_at_call 24; (with_reducible refine (formatInt_impl x x64 wr.drew (hTr.ext D0)).mono ?_); rintro e2 w2 ⟨rfl, h2⟩; rw [HZ.out]; have E2 : Ext wr w2 := D0.trans h2; have j1 := E2.cell i1; have j2 := E2.cell hcell2) | (go_simp; go_at_call 24; (with_reducible refine (formatInt_impl d d64 w2 (hTr.ext E2)).mono ?_); rintro e3 w3 ⟨rfl, h3⟩; rw [HY.out]; have E3 : Ext wr w3 := E2.trans h3; have hs3 := E3.size) | (refine step_app _ (by rfl) _ _ 43 (by rfl) _ _ (by rfl) (by rfl) _ (run_pushS _ w3 w1.heap.size (.slice aq j cq) (mkSs (T.take j)) (z ++ ⟨#[58]⟩ ++ y) (hQ.ext E3) (by rw [HQL.out]; omega) (by omega)) ?_; rintro v4 w4 ⟨o4, g4, _⟩))
    all_goals
     go_wp2
     go_roundw
     case rel => exact ⟨j + 1, by omega, by go_num, by rw [HXD.out, mkSs_append]; show OwnStr _ _ _ (mkSs (T.take j) ++ [mkS (axTok x d)]); rw [HAX.out]; exact o4, (hE.trans E3).only g4 (fun q hq => HB1.out q hq)⟩
     case measure => simp [RowKit.intOf]; omega
  · have : j = L.length := by omega
    subst this
    rw [List.take_of_length_le (by rw [HTL.out]; exact Nat.le_refl _)] at hQ HQL
    have hTr := hT1.ext hE
    have HB1 : Hid (∀ q, (Value.slice aq L.length cq).ownBlock = some q → w1.heap.size ≤ q) := Lib.hid fun q hq => (hQ.block_lt hq).1
    go_wp2_with (at_builtin; refine wpList_app _ rfl _ _ 43 rfl _ _ rfl rfl _ (run_pushS _ wr w1.heap.size (.slice aq L.length cq) (mkSs T) ⟨#[61]⟩ hQ (by rw [HQL.out]; omega) (by omega)) ?_; rintro v4 w4 ⟨o4, g4, _⟩)
    have E4 : Ext w1 w4 := hE.only g4 (fun q hq => HB1.out q hq)
    have o4 : OwnStr w4 w1.heap.size v4 (mkSs (T ++ [[61]])) := by rw [mkSs_append]; exact o4
    obtain ⟨E, hEE⟩ : ∃ E, (chunks W P X).map (fmtL 44) = E := ⟨_, rfl⟩
    have HEL : Hid (E.length = P) := Lib.hid (by rw [← hEE, List.length_map, chunks_length])
    have HEG : Hid (∀ j : Nat, j < P → E[j]? = some (fmtL 44 (getL X (j * W) W))) := Lib.hid (fun j hj => by rw [← hEE, List.getElem?_map, chunks_get W hj]; rfl)
    have HTE : Hid (tenToks W P L D X = T ++ [[61]] ++ E) := Lib.hid (by rw [tenToks, HTT.out, hEE]; simp)
    have HTE2 : Hid ((T ++ [[61]]).length = L.length + 1) := Lib.hid (by rw [List.length_append, HTL.out]; rfl)
    obtain ⟨U, hU⟩ : ∃ U, T ++ [[61]] = U := ⟨_, rfl⟩
    rw [hU] at o4 HTE HTE2
    clear hEE hU hBr hsE hQ g4
    go_wp2_with fail
    go_loopw [5, 8] (fun q i wr => ∃ j : Nat, j ≤ P ∧ i = .int .i64 j ∧ OwnStr wr w1.heap.size q (mkSs (U ++ E.take j)) ∧ Ext w1 wr) (fun q i _ => P - (RowKit.intOf i).toNat)
    case atStart => exact ⟨0, Nat.zero_le _, rfl, by simpa using o4, E4⟩
    case round =>
     rename_i wq
     clear o4 E4 hE hTr
     obtain ⟨j, hj, rfl, hQ, hE⟩ := hrel
     obtain ⟨aq, cq, rfl, hq1, hq2⟩ := hQ.strs.val
     have hql : (mkSs (U ++ E.take j)).length = L.length + 1 + j := by rw [mkSs_length, List.length_append, HTE2.out, List.length_take, HEL.out]; omega
     rw [hql] at hQ hq1 ⊢
     have HQL := Lib.hid hql
     have hBr := BT.ext hE
     have hKr := BK.ext hE
     have hsE := hE.size
     have i1 := hBr.cell (j := 1) rfl
     have hTr := hT1.ext hE
     have HB1 : Hid (∀ q, (Value.slice aq (L.length + 1 + j) cq).ownBlock = some q → w1.heap.size ≤ q) := Lib.hid fun q hq => (hQ.block_lt hq).1
     clear hql
     go_wp2_with fail
     refine (productOf_any _ D _ (hD1.ext hE) AX.out.dims AX.out.size).mono ?_; rintro e2 w2 ⟨rfl, rfl⟩; rw [HP.out]
     by_cases hlt : j < P
     · obtain ⟨g64, gl, gok⟩ := TK.out.elem hlt
       have hfit := TK.out.fit hlt
       have HG64 := Lib.hid g64; have HGL := Lib.hid gl
       have ho : (j : Int) * (W : Int) = ((j * W : Nat) : Int) := by simp
       have HO := Lib.hid ho
       have hXf : j * W + W ≤ X.length := by rw [HXL.out]; exact hfit
       have hX9 : X.length ≤ 1048576 := by rw [HXL.out]; have : P * W ≤ 4096 * 6 := Nat.mul_le_mul hP2 hW6; omega
       have hpart := (hX1.ext hE).part (o := j * W) hW1 hXf
       obtain ⟨z, hz⟩ : ∃ z, mkS (fmtL 44 (getL X (j * W) W)) = z := ⟨_, rfl⟩
       have HZ := Lib.hid hz
       have HEJ := Lib.hid (HEG.out j hlt)
       have k0 := hKr.cell (j := 0) rfl
       have k1 := hKr.cell (j := 1) rfl
       have k2 := hKr.cell (j := 2) rfl
       have i0 := hBr.cell (j := 0) rfl
       have i2 := hBr.cell (j := 2) rfl
       have hKl := hKr.lt
       have hBl := hBr.lt
       have D0 : Ext wr wr.drew := (Ext.refl _).drew
       clear g64 gl gok ho hz hfit
       go_wp2_with fail
       refine (rawElem_gen k p n (j : Int) (j * W) W HW.out _ _ _ _ _ _ bd off X.length c3 _ HO.out (Int.natCast_nonneg j) hw hXf hcd hX9).mono ?_; rintro e3 w3 ⟨rfl, E3⟩
       go_wp2_with fail
       refine (rawElemText_any _ (getL X (j * W) W) w3 (hpart.ext E3) HG64.out (by rw [HGL.out]; omega) (hTr.ext E3)).mono ?_; rintro e5 w5 ⟨rfl, h5⟩; rw [HZ.out]
       have E5 : Ext wr w5 := E3.trans h5
       have hs5 := E5.size
       go_wp2_with (at_builtin; refine wpList_app _ rfl _ _ 43 rfl _ _ rfl rfl _ (run_pushS _ w5 w1.heap.size (.slice aq (L.length + 1 + j) cq) (mkSs (U ++ E.take j)) z (hQ.ext E5) (by rw [HQL.out]; omega) (by omega)) ?_; rintro v6 w6 ⟨o6, g6, _⟩)
       all_goals
        go_roundw
        case rel =>
         refine ⟨j + 1, by omega, by go_num, ?_, (hE.trans E5).only g6 (fun q hq => HB1.out q hq)⟩
         have hjE := HEJ.out
         obtain ⟨hlt', e⟩ := List.getElem?_eq_some_iff.1 hjE
         rw [List.take_succ_eq_append_getElem hlt', e, ← List.append_assoc, mkSs_append]
         show OwnStr _ _ _ (mkSs (U ++ E.take j) ++ [mkS _])
         rw [HZ.out]; exact o6
        case measure => simp [RowKit.intOf]; omega
     · have : j = P := by omega
       subst this
       have hS := hQ.strs
       have HUE : Hid (mkSs (U ++ E.take j) = mkSs (tenToks W j L D X)) := Lib.hid (by rw [List.take_of_length_le (by rw [HEL.out]; exact Nat.le_refl _), HTE.out])
       rw [HUE.out] at hS
       have hbd : (mkSs (tenToks W j L D X)).length + sizeStr (mkSs (tenToks W j L D X)) ≤ 67108864 := by
        rw [mkSs_length]; have := TK.out.len; have := TK.out.size; omega
       go_wp2_with fail
       refine (join_impl _ (mkSs (tenToks W j L D X)) ⟨#[32]⟩ _ hS hbd (by decide)).mono ?_; rintro e7 w7 ⟨rfl, h7⟩
       go_wp2
       go_ret
       exact ⟨ret_str (by rw [mkS_list, RES.out]; show (join ((mkSs (tenToks W j L D X)).map (·.data.toList)) [32]).toArray.toList = _; rw [mkSs_list]), (E1.trans hE).trans h7⟩
end Go.Proofs.YtlgjddgajdjllaaGreatDoor
