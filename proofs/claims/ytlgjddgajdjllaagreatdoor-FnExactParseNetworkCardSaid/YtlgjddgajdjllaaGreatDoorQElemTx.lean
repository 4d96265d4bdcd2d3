/- Elements as text. -/
import Derived.Test.YtlgjddgajdjllaaGreatDoorQFmtInts
set_option linter.unusedSimpArgs false
set_option linter.unusedVariables false
namespace Go.Proofs.YtlgjddgajdjllaaGreatDoor
open Go.RowKit
open Go.Lib
def fmtElem (k p n : Int) (x : List Int) : List UInt8 := if elemOk k p n x = true then fmtL 44 x else []
theorem fmtElem_no {k p n : Int} {x : List Int} (h : elemOk k p n x = false) : fmtElem k p n x = [] := by simp [fmtElem, h]
theorem fmtElem_yes {k p n : Int} {x : List Int} (h : elemOk k p n x = true) : fmtElem k p n x = fmtL 44 x := by simp [fmtElem, h]
theorem elemOk_i64 {k p n : Int} {x : List Int} (h : elemOk k p n x = true) : (∀ v ∈ x, isI64 v) ∧ x.length ≤ 6 := by
  have hr : ringOk k p n = true := by simp [elemOk] at h; exact h.1.1
  rw [elemOk_yes hr] at h
  have ht := ringTop_le (ringOk_fit hr)
  have hw := (ringOk_wide hr).hi
  unfold rawOk at h
  simp [allTo] at h
  exact ⟨fun v hv => by have := h.2 v hv; unfold isI64; omega, by omega⟩
set_option maxHeartbeats 1000000 in
theorem formatElem_spec (k p n : Int) (v : Value) (x : List Int) (w : World) (hx : IntS w v x) : Calls Tryz.prog 94 #[ringV k p n, v] w fun e w' =>
 e = .returned (.string (mkS (fmtElem k p n x))) ∧ Ext w w' := by
 obtain ⟨a, cap, rfl, hc1, hc2⟩ := hx.val
 cases he : elemOk k p n x
 · have HZ := Lib.hid (fmtElem_no he)
   go_enter Tryz.func94, Tryz.ntmps94
   go_wp2_with fail
   refine (elemOk_spec _ _ _ _ x _ (hx.ext (by repeat' (first | (with_reducible first | exact Ext.refl _ | assumption | apply Ext.alloc | apply Ext.drew | apply Ext.drewN) | (refine Ext.setAt ?_ (by omega) _ _) | (refine Ext.trans ?_ (by assumption)))))).mono ?_; rintro e1 w1 ⟨rfl, h1⟩; rw [he]
   go_wp2
   go_ret
   exact ⟨ret_str (by rw [mkS_list, HZ.out]), (by repeat' (first | (with_reducible first | exact Ext.refl _ | assumption | apply Ext.alloc | apply Ext.drew | apply Ext.drewN) | (refine Ext.setAt ?_ (by omega) _ _) | (refine Ext.trans ?_ (by assumption))))⟩
 have HZ := Lib.hid (fmtElem_yes he)
 obtain ⟨h64, hlen⟩ := elemOk_i64 he
 have hsz := texts_size h64
 have H64 := Lib.hid h64; have HE := Lib.hid he; have HSZ := Lib.hid hsz
 clear h64 he hsz
 go_enter Tryz.func94, Tryz.ntmps94
 go_wp2_with fail
 refine (elemOk_spec _ _ _ _ x _ (hx.ext (by repeat' (first | (with_reducible first | exact Ext.refl _ | assumption | apply Ext.alloc | apply Ext.drew | apply Ext.drewN) | (refine Ext.setAt ?_ (by omega) _ _) | (refine Ext.trans ?_ (by assumption)))))).mono ?_; rintro e1 w0 ⟨rfl, h1⟩; rw [HE.out]
 have E0 : Ext w w0 := (by repeat' (first | (with_reducible first | exact Ext.refl _ | assumption | apply Ext.alloc | apply Ext.drew | apply Ext.drewN) | (refine Ext.setAt ?_ (by omega) _ _) | (refine Ext.trans ?_ (by assumption))))
 have hl := hx.ext E0
 clear h1 hx
 go_wp2_with fail
 go_loopw [5, 15] (fun q i wr => ∃ j : Nat, j ≤ x.length ∧ i = .int .i64 j ∧ OwnStr wr w0.heap.size q (texts (x.take j)) ∧ Ext w0 wr) (fun q i _ => x.length - (RowKit.intOf i).toNat)
 case atStart => exact ⟨0, Nat.zero_le _, rfl, OwnStr.empty (Nat.le_refl _) rfl, (by repeat' (first | (with_reducible first | exact Ext.refl _ | assumption | apply Ext.alloc | apply Ext.drew | apply Ext.drewN) | (refine Ext.setAt ?_ (by omega) _ _) | (refine Ext.trans ?_ (by assumption))))⟩
 case round =>
  obtain ⟨j, hj, rfl, hQ, hE⟩ := hrel
  obtain ⟨aq, cq, rfl, hq1, hq2⟩ := hQ.strs.val
  have hql : (texts (x.take j)).length = j := by rw [texts_length, List.length_take]; omega
  rw [hql] at hQ hq1 ⊢
  have HQL := Lib.hid hql
  clear hql
  by_cases hlt : j < x.length
  · obtain ⟨b, off, y, rfl, hcell, hy, _⟩ := (hl.ext hE).get hlt
    have hy64 := H64.out y (List.mem_of_getElem? hy)
    have HY := Lib.hid hy; clear hy
    go_wp2_with fail
    refine (formatInt_spec y hy64 _).mono ?_; rintro e1 w1 ⟨rfl, h1⟩
    obtain ⟨z, hz⟩ : ∃ z, mkS (itoa y) = z := ⟨_, rfl⟩
    rw [hz]
    have HZ := Lib.hid hz
    clear hz
    have hQ1 := hQ.ext h1
    have hs1 := h1.size
    have hsE := hE.size
    have hb1 : ∀ q, (Value.slice aq j cq).ownBlock = some q → w0.heap.size ≤ q := fun q hq => (hQ.block_lt hq).1
    have HB1 := Lib.hid hb1; clear hb1
    go_wp2_with (at_builtin; refine wpList_app _ rfl _ _ 43 rfl _ _ rfl rfl _ (run_pushS _ w1 w0.heap.size (.slice aq j cq) (texts (x.take j)) z hQ1 (by rw [HQL.out]; omega) (by omega)) ?_; rintro v4 w4 ⟨o4, g4, _⟩)
    go_roundw
    case rel => exact ⟨j + 1, by omega, by go_num, by rw [← texts_snoc HY.out, HZ.out]; exact o4, (hE.trans h1).only g4 (fun q hq => HB1.out q hq)⟩
    case measure => simp [RowKit.intOf]; omega
  · have : j = x.length := by omega
    subst this
    rw [List.take_length] at hQ
    have hbd : (texts x).length + sizeStr (texts x) ≤ 67108864 := by rw [texts_length]; have := HSZ.out; omega
    go_wp2_with fail
    refine (join_spec _ (texts x) ⟨#[44]⟩ _ hQ.strs hbd (by decide)).mono ?_; rintro e2 w2 ⟨rfl, h2⟩
    go_wp2
    go_ret
    exact ⟨ret_str (by rw [mkS_list, HZ.out]; show (join ((texts x).map (·.data.toList)) [44]).toArray.toList = _; rw [texts_map]; rfl), E0.trans (hE.trans h2)⟩
end Go.Proofs.YtlgjddgajdjllaaGreatDoor
