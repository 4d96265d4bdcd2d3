/- Lists of integers read from their text. -/
import Derived.Test.YtlgjddgajdjllaaGreatDoorQSplitTx
import Derived.Test.YtlgjddgajdjllaaGreatDoorQParseW
set_option linter.unusedSimpArgs false
set_option linter.unusedVariables false
namespace Go.Proofs.YtlgjddgajdjllaaGreatDoor
open Go.RowKit
open Go.Lib
theorem mapM_snoc {α β : Type} (f : α → Option β) : ∀ {l : List α} {x : α} {ys : List β} {y : β}, l.mapM f = some ys → f x = some y → (l ++ [x]).mapM f = some (ys ++ [y])
  | [], x, ys, y, h, hy => by simp at h; subst h; simp [hy]
  | a :: l, x, ys, y, h, hy => by
    rw [List.mapM_cons] at h
    rw [List.cons_append, List.mapM_cons]
    cases h1 : f a with
    | none => rw [h1] at h; simp at h
    | some b =>
      cases h2 : l.mapM f with
      | none => rw [h1, h2] at h; simp at h
      | some zs =>
        rw [h1, h2] at h
        simp at h
        subst h
        rw [mapM_snoc f h2 hy]; rfl
theorem mapM_none {α β : Type} (f : α → Option β) : ∀ {l : List α} {x : α}, x ∈ l → f x = none → l.mapM f = none
  | a :: l, x, h, hn => by
    rw [List.mapM_cons]
    rcases List.mem_cons.1 h with rfl | h
    · rw [hn]; rfl
    · rw [mapM_none f h hn]
      cases f a <;> rfl
theorem mapM_len {α β : Type} (f : α → Option β) : ∀ {l : List α} {ys : List β}, l.mapM f = some ys → ys.length = l.length
  | [], ys, h => by simp at h; subst h; rfl
  | a :: l, ys, h => by
    rw [List.mapM_cons] at h
    cases h1 : f a with
    | none => rw [h1] at h; simp at h
    | some b =>
      cases h2 : l.mapM f with
      | none => rw [h1, h2] at h; simp at h
      | some zs =>
        rw [h1, h2] at h
        simp at h
        subst h
        simp [mapM_len f h2]
def piv (c : UInt8) (s : List UInt8) : List Int := (intsBy c s).getD []
def pib (c : UInt8) (s : List UInt8) : Bool := (intsBy c s).isSome
theorem piv_none {c : UInt8} {s : List UInt8} (h : intsBy c s = none) : piv c s = [] := by rw [piv, h]; rfl
theorem pib_none {c : UInt8} {s : List UInt8} (h : intsBy c s = none) : pib c s = false := by rw [pib, h]; rfl
theorem piv_some {c : UInt8} {s : List UInt8} {x : List Int} (h : intsBy c s = some x) : piv c s = x := by rw [piv, h]; rfl
theorem pib_some {c : UInt8} {s : List UInt8} {x : List Int} (h : intsBy c s = some x) : pib c s = true := by rw [pib, h]; rfl
theorem intsBy_ne {c : UInt8} {s : List UInt8} (h : s ≠ []) : intsBy c s = (sp c s).mapM parseI := by rw [intsBy, if_neg h]
theorem pib_some' {x : List UInt8} {n : Int} (h : parseI x = some n) : pv x = n ∧ pb x = true := by rw [pv, pb, h]; exact ⟨rfl, rfl⟩
theorem pib_none' {x : List UInt8} (h : parseI x = none) : pb x = false := by rw [pb, h]; rfl
theorem ne_of_size {s : ByteArray} (h : s.size ≠ 0) : s.data.toList ≠ [] := by
  intro e
  have := congrArg List.length e
  rw [slen] at this
  exact h this
theorem sp_piece_le {c : UInt8} : ∀ {l : List UInt8} {p : List UInt8}, p ∈ sp c l → p.length ≤ l.length
  | [], p, h => by simp [sp] at h; subst h; simp
  | b :: l, p, h => by
    rw [sp] at h
    split at h
    · rcases List.mem_cons.1 h with rfl | h
      · simp
      · have := sp_piece_le h; rw [List.length_cons]; omega
    · obtain ⟨x, t, ht⟩ := sp_shape c l
      rw [ht] at h
      rcases List.mem_cons.1 h with rfl | h
      · have : x.length ≤ l.length := sp_piece_le (c := c) (l := l) (by rw [ht]; simp)
        simp; exact this
      · have : p.length ≤ l.length := sp_piece_le (c := c) (l := l) (by rw [ht]; exact List.mem_cons_of_mem _ h)
        rw [List.length_cons]; omega
theorem beq_no {s : ByteArray} (h : s.size ≠ 0) : (s.toList == ([] : List UInt8)) = false := by
  rw [beq_eq_false_iff_ne, ByteArray.toList_eq]; exact ne_of_size h
theorem is_empty {s : ByteArray} (h : s.size = 0) : s = ⟨#[]⟩ := by
  apply str_eq
  have : s.data.toList.length = 0 := by rw [slen]; exact h
  rw [List.eq_nil_of_length_eq_zero this]
structure ParR (w w' : World) (e : Ending) (x : List Int) (b : Bool) : Prop where
  out : ∃ v, e = .returned (.tuple #[v, .bool b]) ∧ OwnI w' w.heap.size v x ∧ Ext w w'
set_option maxHeartbeats 1000000 in
theorem parseIntList_any (s : ByteArray) (c : UInt8) (w : World) (hs : s.size ≤ 1073741824) (hT : AllV w) : Calls Tryz.prog 57 #[.string s, .string ⟨#[c]⟩] w fun e w' => ParR w w' e (piv c s.data.toList) (pib c s.data.toList) := by
 by_cases h0 : s.size = 0
 · obtain rfl := is_empty h0
   go_enter Tryz.func57, Tryz.ntmps57
   go_wp2
   go_ret2
   exact ⟨⟨_, rfl, OwnI.nil _ _, (by repeat' (first | (with_reducible first | exact Ext.refl _ | assumption | apply Ext.alloc | apply Ext.drew | apply Ext.drewN) | (refine Ext.setAt ?_ (by omega) _ _) | (refine Ext.trans ?_ (by assumption))))⟩⟩
 have hb0 := beq_no h0
 have hne := ne_of_size h0
 have hint := intsBy_ne (c := c) hne
 clear hne h0
 have hpl : ∀ p ∈ sp c s.data.toList, p.length ≤ s.size := fun p hp => by have := sp_piece_le hp; rwa [slen] at this
 go_enter Tryz.func57, Tryz.ntmps57
 go_wp2_with fail
 refine (split_any s c _ hs hT.maxl).mono ?_; rintro e1 w1 ⟨rfl, hB, h1⟩
 have hle := sp_le c s
 obtain ⟨ps, hps⟩ : ∃ ps, sp c s.data.toList = ps := ⟨_, rfl⟩
 rw [hps] at hB hle hint hpl ⊢
 have HINT := Lib.hid hint; clear hint hps
 have HPL := Lib.hid hpl; clear hpl
 have hs1 := h1.size
 have hb0 := hB.lt
 go_wp2_with fail
 go_loopw [6, 17] (fun q i wr => ∃ j : Nat, ∃ xs : List Int, j ≤ ps.length ∧ i = .int .i64 j ∧ Hid ((ps.take j).mapM parseI = some xs) ∧ OwnI wr (w.heap.size + 1) q xs ∧ Blk wr w.heap.size 9 (strs (mkSs ps)) ∧ Ext w wr) (fun q i _ => ps.length - (RowKit.intOf i).toNat)
 case atStart => exact ⟨0, [], Nat.zero_le _, rfl, Lib.hid rfl, OwnI.nil _ _, hB, h1⟩
 case round =>
  obtain ⟨j, xs, hj, rfl, HM, hQ, hBr, hE⟩ := hrel
  have hsE := hE.size
  have hbl := hBr.lt
  by_cases hlt : j < ps.length
  · obtain ⟨x, hx⟩ : ∃ x, ps[j]? = some x := ⟨_, List.getElem?_eq_getElem hlt⟩
    have hcell := hBr.cell (j := j) (u := .string (mkS x)) (by rw [strs_get, mkSs_get, hx]; rfl)
    have hxs : (mkS x).size ≤ 1099511627776 := by rw [mkS_size]; have := HPL.out x (List.mem_of_getElem? hx); omega
    have hP : ∀ w, Errs w → Calls Tryz.prog 54 #[.string (mkS x)] w fun e w' => e = .returned (.tuple #[.int .i64 (pv x), .bool (pb x)]) ∧ Ext w w' := fun w he => by
     have := parseInt_impl (mkS x) hxs w he
     rwa [mkS_list] at this
    have HP := Lib.hid hP
    obtain ⟨z, hz⟩ : ∃ z, mkS x = z := ⟨_, rfl⟩
    rw [hz] at hcell HP
    have HX := Lib.hid hx
    clear hx hz hP hxs
    go_wp2_with fail
    refine (HP.out _ (hT.errs.ext hE)).mono ?_; rintro e2 w2 ⟨rfl, h2⟩
    have HB2 := hBr.ext h2
    cases hpar : parseI x with
    | none =>
     have hpb := pib_none' hpar
     rw [hpb]
     have hin : intsBy c s.data.toList = none := by rw [HINT.out]; exact mapM_none _ (List.mem_of_getElem? HX.out) hpar
     have hin1 := Lib.hid (piv_none hin); have hin2 := Lib.hid (pib_none hin)
     clear hin hpar hpb
     go_wp2
     go_ret2
     exact ⟨⟨_, by rw [hin2.out]; rfl, by rw [hin1.out]; exact OwnI.nil _ _, hE.trans h2⟩⟩
    | some n =>
     obtain ⟨hpv, hpb⟩ := pib_some' hpar
     rw [hpv, hpb]
     have HN := Lib.hid hpar
     clear hpv hpb hpar
     have hQ2 := hQ.ext h2
     have hs2 := h2.size
     obtain ⟨aq, cq, hqv, hq1, hq2⟩ := hQ2.ints.val
     subst hqv
     have hxl : xs.length = j := by have := mapM_len _ HM.out; rw [List.length_take] at this; omega
     rw [hxl] at hq1 hQ2 ⊢
     have HXL := Lib.hid hxl
     have hqb : ∀ q, (Value.slice aq j cq).ownBlock = some q → w.heap.size + 1 ≤ q := fun q hq => (hQ2.block_lt hq).1
     have HQB := Lib.hid hqb; clear hqb hxl
     go_wp2_with (at_builtin; refine wpList_app _ rfl _ _ 27 rfl _ _ rfl rfl _ (run_push _ w2 (w.heap.size + 1) (.slice aq j cq) xs n hQ2 (by rw [HXL.out]; omega) (by omega)) ?_; rintro v4 w4 ⟨o4, g4, _⟩)
     go_roundw
     case rel =>
      refine ⟨j + 1, xs ++ [n], by omega, by go_num, Lib.hid ?_, o4, HB2.block (g4.block _ (by omega) (fun e => by have := HQB.out _ e.symm; omega)), (hE.trans h2).only g4 (fun q hq => by have := HQB.out q hq; omega)⟩
      obtain ⟨hlt', e⟩ := List.getElem?_eq_some_iff.1 HX.out
      rw [List.take_succ_eq_append_getElem hlt', e]
      exact mapM_snoc _ HM.out HN.out
     case measure => simp [RowKit.intOf] <;> omega
  · have : j = ps.length := by omega
    subst this
    have hm := HM.out
    rw [List.take_length] at hm
    have hin : intsBy c s.data.toList = some xs := by rw [HINT.out]; exact hm
    have hin1 := Lib.hid (piv_some hin); have hin2 := Lib.hid (pib_some hin)
    clear hin hm
    go_wp2
    go_ret2
    exact ⟨⟨_, by rw [hin2.out]; rfl, by rw [hin1.out]; exact hQ.mono (by omega), hE⟩⟩
theorem parseInts_impl (s : ByteArray) (w : World) (hs : s.size ≤ 1073741824) (hT : AllV w) : Calls Tryz.prog 21 #[.string s] w fun e w' => ParR w w' e (piv 32 s.data.toList) (pib 32 s.data.toList) := by
 go_enter Tryz.func21, Tryz.ntmps21
 go_wp2_with fail
 refine (parseIntList_any s 32 _ hs hT).mono ?_; rintro e1 w1 ⟨v1, rfl, o1, h1⟩
 go_wp2
 go_ret2
 exact ⟨⟨_, rfl, o1, h1⟩⟩
def PSt (c : UInt8) (l : List UInt8) (j k : Nat) (done : List (List UInt8)) : Prop := (k ≤ j ∧ j ≤ l.length ∧ c ∉ (l.take j).drop k ∧ done ++ sp c (l.drop k) = sp c l) ∨ (j = l.length + 1 ∧ done = sp c l)
theorem pst_len {c : UInt8} {l : List UInt8} {j k : Nat} {done : List (List UInt8)} (h : PSt c l j k done) : done.length ≤ l.length + 1 := by
  have e := sp_length c l
  have := List.count_le_length (a := c) (l := l)
  rcases h with ⟨_, _, _, h⟩ | ⟨_, h⟩
  · rw [← h, List.length_append] at e; omega
  · rw [h]; omega
theorem pst_gap {c : UInt8} {l : List UInt8} {j k : Nat} {done : List (List UInt8)} (h : PSt c l j k done) (hj : l[j]? = some c) : PSt c l (j + 1) (j + 1) (done ++ [(l.take j).drop k]) := by
  have hlt := (List.getElem?_eq_some_iff.1 hj).1
  rcases h with ⟨h1, h2, h3, h4⟩ | ⟨h1, _⟩
  · refine .inl ⟨Nat.le_refl _, by omega, ?_, ?_⟩
    · rw [List.drop_eq_nil_of_le (by rw [List.length_take]; omega)]; simp
    · rw [← h4, List.append_assoc]
      congr 1
      rw [piece_at h1 hj, sp_at h3]; rfl
  · omega
theorem pst_end {c : UInt8} {l : List UInt8} {k k' : Nat} {done : List (List UInt8)} (h : PSt c l l.length k done) : PSt c l (l.length + 1) k' (done ++ [(l.take l.length).drop k]) := by
  rcases h with ⟨h1, h2, h3, h4⟩ | ⟨h1, _⟩
  · refine .inr ⟨rfl, ?_⟩
    rw [← h4]
    congr 1
    rw [List.take_length] at h3 ⊢
    rw [sp_none h3]
  · omega
theorem pst_more {c d : UInt8} {l : List UInt8} {j k : Nat} {done : List (List UInt8)} (h : PSt c l j k done) (hj : l[j]? = some d) (hd : d ≠ c) : PSt c l (j + 1) k done := by
  have hlt := (List.getElem?_eq_some_iff.1 hj).1
  rcases h with ⟨h1, h2, h3, h4⟩ | ⟨h1, _⟩
  · exact .inl ⟨by omega, by omega, piece_more h1 hj h3 hd, h4⟩
  · omega
theorem pst_fin {c : UInt8} {l : List UInt8} {k : Nat} {done : List (List UInt8)} (h : PSt c l (l.length + 1) k done) : done = sp c l := by
  rcases h with ⟨_, h2, _⟩ | ⟨_, h⟩
  · omega
  · exact h
theorem pst_mem {c : UInt8} {l : List UInt8} {j k j' k' : Nat} {done : List (List UInt8)} {x : List UInt8} (h : PSt c l j k (done ++ [x])) : x ∈ sp c l := by
  rcases h with ⟨_, _, _, h⟩ | ⟨_, h⟩
  · rw [← h]; simp
  · rw [← h]; simp
theorem OwnI.empty' {w : World} {B b : Nat} (hb : B ≤ b) (hs : b = w.heap.size) : OwnI (w.alloc (.cells #[] 3)) B (.slice (some ⟨b, 0, none⟩) 0 0) [] := by
  subst hs; exact OwnI.of (l := []) hb (Blk.new w #[] 3) (by simp [maxLen])
end Go.Proofs.YtlgjddgajdjllaaGreatDoor
