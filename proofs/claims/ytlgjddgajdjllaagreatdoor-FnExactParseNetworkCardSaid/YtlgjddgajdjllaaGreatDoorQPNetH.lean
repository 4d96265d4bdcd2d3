/- Own slices of strings as objects; the two results of 'ParseNetwork'. -/
import Derived.Test.YtlgjddgajdjllaaGreatDoorQMarkN
import Derived.Test.YtlgjddgajdjllaaGreatDoorQFmtNet
import Derived.Test.YtlgjddgajdjllaaGreatDoorQCutW
import Derived.Test.YtlgjddgajdjllaaGreatDoorQPTenSW
set_option linter.unusedSimpArgs false
set_option linter.unusedVariables false
namespace Go.Proofs.YtlgjddgajdjllaaGreatDoor
open Go.RowKit
open Go.Lib
theorem OwnStr.near {w w' : World} {B : Nat} {v : Value} {l : List ByteArray} (h : OwnStr w B v l) (e : ∀ b, v.ownBlock = some b → w'.heap[b]? = w.heap[b]?) : OwnStr w' B v l := by
  rcases h.own with h | ⟨b, rest, h1, rfl, h3, h4⟩
  · exact ⟨.inl h⟩
  · exact ⟨.inr ⟨b, rest, h1, rfl, h3.block (e b rfl), h4⟩⟩
def aS (v : Value) (l : List ByteArray) : Asn := ⟨v.ownBlock.toList, fun w => OwnStr w 0 v l, fun _ _ e h => h.near fun b hb => e b (by simp [hb]), fun w h b hb => (h.block_lt (by simpa using hb)).2⟩
section
variable {ex : Option Nat} {a w w' : World} {L : List Asn} {k : Nat} {v : Value}
theorem HeldX.addS {l : List ByteArray} (h : HeldX ex a w L) (k : Nat) {B : Nat} (e : Ext w w') (o : OwnStr w' B v l) (hB : w.heap.size ≤ B) : HeldX ex a w' (L.set k (aS v l)) :=
  h.add k e (o.mono (Nat.zero_le _)) fun b hb => Nat.le_trans hB (o.block_lt (by simpa [aS] using hb)).1
theorem HeldX.ownS {l : List ByteArray} (h : HeldX ex a w L) (hk : L[k]? = some (aS v l)) : OwnStr w 0 v l := h.get hk
theorem HeldX.lineAt {ad : Option Addr} {n c i : Nat} {ls : List (List UInt8)} {x : List UInt8} (h : HeldX ex a w L) (hk : L[k]? = some (aS (.slice ad n c) (mkSs ls))) (hx : ls[i]? = some x) : ∃ b, ad = some ⟨b, 0, none⟩ := by
  rcases (h.ownS hk).own with ⟨_, h2⟩ | ⟨b, rest, _, h2, _⟩
  · have : ls = [] := by have := congrArg List.length h2; rw [mkSs_length] at this; exact List.eq_nil_of_length_eq_zero this
    rw [this] at hx; simp at hx
  · injection h2 with h2; exact ⟨b, h2⟩
theorem HeldX.lineC {b n c i : Nat} {ls : List (List UInt8)} {x : List UInt8} {z : ByteArray} (h : HeldX ex a w L) (hk : L[k]? = some (aS (.slice (some ⟨b, 0, none⟩) n c) (mkSs ls))) (hx : ls[i]? = some x) (hz : mkS x = z) : w.cell? ⟨b, i, none⟩ = some (.string z) := by
  rcases (h.ownS hk).own with ⟨h2, _⟩ | ⟨b', rest, _, h2, h3, _⟩
  · cases h2
  · injection h2 with h2
    injection h2 with h2
    injection h2 with h2
    subst h2
    refine h3.cell ?_
    have hi := (List.getElem?_eq_some_iff.1 hx).1
    rw [List.getElem?_append_left (by rw [strs_length, mkSs_length]; exact hi), strs_get, mkSs_get, hx]
    subst hz; rfl
end
structure PNR (s : List UInt8) (w w' : World) (e : Ending) : Prop where
  out : ∃ (k p n : Int) (tv ov : Value) (cs : List (Value × Value × Value)) (O : List Int) (T : List Ten3) (b : Bool), e = .returned (.tuple #[.agg #[.int .i64 k, .int .i64 p, .int .i64 n, tv, ov], .bool b]) ∧ NP s k p n O T b ∧ Held w w' [aI ov O, aTs tv cs T] ∧ ApartD cs
theorem PNR.fail {s : List UInt8} {w w' : World} {L : List Asn} (hN : NP s 0 0 0 [] [] false) (hH : Held w w' L) : PNR s w w' (.returned (.tuple #[.agg #[.int .i64 0, .int .i64 0, .int .i64 0, .slice none 0 0, .slice none 0 0], .bool false])) :=
  ⟨⟨0, 0, 0, _, _, [], [], [], false, rfl, hN, (Held.new hH.ext 0).nilI.nilTs, ApartD.nil⟩⟩
theorem lines_mem_le {s : List UInt8} {q : List UInt8} (h : q ∈ linesL s) : q.length ≤ s.length := by
  unfold linesL at h
  split at h
  · exact sp_piece_le (List.dropLast_subset _ h)
  · exact sp_piece_le h
theorem line_known {ls : List (List UInt8)} {x : List UInt8} {i n : Nat} (hpl : ∀ q ∈ ls, q.length ≤ n) (h : ls[i]? = some x) : (mkS x).size ≤ n := by rw [mkS_size]; exact hpl x (List.mem_of_getElem? h)
theorem ints_len {c : UInt8} {s : List UInt8} {O : List Int} (h : intsBy c s = some O) : O.length ≤ s.length + 1 := by
  unfold intsBy at h
  split at h
  · cases h; simp
  · rw [mapM_len _ h]
    have := sp_le c (mkS s)
    rwa [mkS_list, mkS_size] at this
theorem opI_no {b : List UInt8} (h : b.take 4 ≠ [111, 112, 101, 110]) : opI b = none := by unfold opI; exact if_neg h
theorem opI_nil {b : List UInt8} (h : b.take 4 = [111, 112, 101, 110]) (hr : b.drop 4 = []) : opI b = some [] := by unfold opI; rw [if_pos (show b.take 4 = openT from h), if_pos hr]
theorem opI_ints {b : List UInt8} (h : b.take 4 = [111, 112, 101, 110]) (hr : b.drop 4 ≠ []) : opI b = intsBy 32 ((b.drop 4).drop 1) := by unfold opI; rw [if_pos (show b.take 4 = openT from h), if_neg hr, List.drop_drop]
end Go.Proofs.YtlgjddgajdjllaaGreatDoor
