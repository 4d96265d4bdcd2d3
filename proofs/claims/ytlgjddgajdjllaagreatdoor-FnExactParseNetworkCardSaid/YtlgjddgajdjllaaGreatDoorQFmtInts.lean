/- Lists of integers as text: the loops that make the numerals. -/
import Derived.Test.YtlgjddgajdjllaaGreatDoorQJoinTx
import Derived.Test.YtlgjddgajdjllaaGreatDoorQItoaW
set_option linter.unusedSimpArgs false
set_option linter.unusedVariables false
namespace Go.Proofs.YtlgjddgajdjllaaGreatDoor
open Go.RowKit
open Go.Lib
def texts (l : List Int) : List ByteArray := l.map fun n => mkS (itoa n)
theorem texts_length (l : List Int) : (texts l).length = l.length := by simp [texts]
theorem texts_map (l : List Int) : (texts l).map (·.data.toList) = l.map itoa := by simp [texts, mkS]
theorem texts_snoc {l : List Int} {j : Nat} {x : Int} (h : l[j]? = some x) : texts (l.take j) ++ [mkS (itoa x)] = texts (l.take (j + 1)) := by
  obtain ⟨hlt, rfl⟩ := List.getElem?_eq_some_iff.1 h
  rw [List.take_succ_eq_append_getElem hlt, texts, texts, List.map_append]; rfl
theorem texts_size : ∀ {l : List Int}, (∀ x ∈ l, isI64 x) → sizeStr (texts l) ≤ l.length * 20
  | [], _ => by simp [texts, sizeStr]
  | x :: l, h => by
    have ih := texts_size (l := l) fun y hy => h y (by simp [hy])
    have := (itoa_len (h x (by simp))).2
    rw [show texts (x :: l) = mkS (itoa x) :: texts l from rfl, sizeStr_cons, mkS_size, List.length_cons, Nat.add_mul]
    omega
def fmtL (c : UInt8) (l : List Int) : List UInt8 := join (l.map itoa) [c]
theorem fmt_str (c : UInt8) (l : List Int) : (⟨(join ((texts l).map (·.data.toList)) [c]).toArray⟩ : ByteArray) = mkS (fmtL c l) := by rw [texts_map]; rfl
theorem strs_texts_get {l : List Int} {j : Nat} {x : Int} (h : l[j]? = some x) : (strs (texts l))[j]? = some (.string (mkS (itoa x))) := by
  rw [strs_get, texts, List.getElem?_map, h]; rfl
set_option maxHeartbeats 1000000 in
theorem rawElemText_any (v : Value) (l : List Int) (w : World) (hl : IntS w v l) (h64 : ∀ x ∈ l, isI64 x) (hlen : l.length ≤ 1048576) (hT : Tab w) : Calls Tryz.prog 61 #[v] w fun e w' =>
 e = .returned (.string (mkS (fmtL 44 l))) ∧ Ext w w' := by
 obtain ⟨a, cap, rfl, hc1, hc2⟩ := hl.val
 have hmk := mkStrs l.length (by omega)
 have hsz := texts_size h64
 have H64 := Lib.hid h64; have HSZ := Lib.hid hsz
 clear h64 hsz
 go_enter Tryz.func61, Tryz.ntmps61
 go_wp2_with fail
 go_loopw [11] (fun i wr => ∃ j : Nat, ∃ xs : List Value, j ≤ l.length ∧ i = .int .i64 j ∧ xs.length = l.length ∧ xs.take j = (strs (texts l)).take j ∧ Blk wr w.heap.size 9 xs ∧ Ext w wr) (fun i _ => l.length - (RowKit.intOf i).toNat)
 case atStart => exact ⟨0, List.replicate l.length (.string ByteArray.empty), Nat.zero_le _, rfl, by simp, by simp, by have := Blk.new w (madeCells #[.string ByteArray.empty] l.length) 9; rwa [madeStrs_toList] at this, (by repeat' (first | (with_reducible first | exact Ext.refl _ | assumption | apply Ext.alloc | apply Ext.drew | apply Ext.drewN) | (refine Ext.setAt ?_ (by omega) _ _) | (refine Ext.trans ?_ (by assumption))))⟩
 case round =>
  obtain ⟨j, xs, hj, rfl, hxl, hx, hB, hE⟩ := hrel
  have HX := Lib.hid hx; clear hx
  have HL := Lib.hid hxl; clear hxl
  by_cases hlt : j < l.length
  · obtain ⟨b, off, y, rfl, hcell, hy, _⟩ := (hl.ext hE).get hlt
    have hy64 := H64.out y (List.mem_of_getElem? hy)
    have HY := Lib.hid hy; clear hy
    go_wp2_with fail
    refine (formatInt_impl y hy64 _ (hT.ext hE)).mono ?_; rintro e1 w1 ⟨rfl, h1⟩
    have hB1 := hB.ext h1
    have hjx : j < xs.length := by have := HL.out; omega
    have ho := hB1.cell (j := j) (List.getElem?_eq_getElem hjx)
    generalize xs[j] = y' at ho
    have hf := hB1.free j
    obtain ⟨z, hz⟩ : ∃ z, mkS (itoa y) = z := ⟨_, rfl⟩
    rw [hz]
    have HZ := Lib.hid hz
    clear hjx hz
    go_wp2
    go_roundw
    case rel => exact ⟨j + 1, _, by omega, by go_num, by rw [List.length_set]; exact HL.out, upd_take HX.out (by have := HL.out; omega) (by rw [strs_texts_get HY.out, HZ.out]), hB1.set j _, (hE.trans h1).setAt (Nat.le_refl _) _ _⟩
    case measure => simp [RowKit.intOf]; omega
  · have : j = l.length := by omega
    subst this
    have hx2 : xs = strs (texts l) := by
     have := HX.out
     rwa [List.take_of_length_le (by have := HL.out; omega), List.take_of_length_le (by rw [strs_length, texts_length]; omega)] at this
    have oS : OwnStr wr w.heap.size (.slice (some ⟨w.heap.size, 0, none⟩) l.length l.length) (texts l) := ⟨.inr ⟨_, [], Nat.le_refl _, by rw [texts_length]; rfl, by simpa [hx2] using hB, (by rw [texts_length, List.length_nil, Nat.add_zero]; exact Nat.le_trans hc1 hc2)⟩⟩
    have hbd : (texts l).length + sizeStr (texts l) ≤ 67108864 := by rw [texts_length]; have := HSZ.out; omega
    clear hx2 hB
    go_wp2_with fail
    refine (join_impl _ (texts l) ⟨#[44]⟩ _ oS.strs hbd (by decide)).mono ?_; rintro e2 w2 ⟨rfl, h2⟩
    go_wp2
    go_ret
    exact ⟨congrArg (fun s => Ending.returned (Value.string s)) (fmt_str 44 l), hE.trans h2⟩
end Go.Proofs.YtlgjddgajdjllaaGreatDoor
