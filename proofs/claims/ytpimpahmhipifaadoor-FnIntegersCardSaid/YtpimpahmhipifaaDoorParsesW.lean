/- Lists of integers read from their text. -/
import Derived.Test.YtpimpahmhipifaaDoorSplitW
import Derived.Test.YtpimpahmhipifaaDoorParseW
import Derived.Test.YtpimpahmhipifaaDoorPushI
namespace Go.Proofs.YtpimpahmhipifaaDoor
open Go.RowKit
set_option linter.unusedSimpArgs false
set_option linter.unusedVariables false
open Go.Lib

theorem mapM_snoc {α β : Type} (f : α → Option β) : ∀ {l : List α} {x : α} {ys : List β} {y : β}, l.mapM f = some ys → f x = some y → (l ++ [x]).mapM f = some (ys ++ [y])
  | [], x, ys, y, h, hy => by simp at h; subst h; simp [hy]
  | a :: l, x, ys, y, h, hy => by
    rw [List.mapM_cons] at h
    rw [List.cons_append, List.mapM_cons]
    cases h1 : f a with
    | none => rw [h1] at h; simp at h
    | some b =>
      cases h2 : l.mapM f with
      | none => rw [h1, h2] at h; simp at h
      | some zs =>
        rw [h1, h2] at h
        simp at h
        subst h
        rw [mapM_snoc f h2 hy]; rfl
theorem mapM_none {α β : Type} (f : α → Option β) : ∀ {l : List α} {x : α}, x ∈ l → f x = none → l.mapM f = none
  | a :: l, x, h, hn => by
    rw [List.mapM_cons]
    rcases List.mem_cons.1 h with rfl | h
    · rw [hn]; rfl
    · rw [mapM_none f h hn]
      cases f a <;> rfl
theorem mapM_len {α β : Type} (f : α → Option β) : ∀ {l : List α} {ys : List β}, l.mapM f = some ys → ys.length = l.length
  | [], ys, h => by simp at h; subst h; rfl
  | a :: l, ys, h => by
    rw [List.mapM_cons] at h
    cases h1 : f a with
    | none => rw [h1] at h; simp at h
    | some b =>
      cases h2 : l.mapM f with
      | none => rw [h1, h2] at h; simp at h
      | some zs =>
        rw [h1, h2] at h
        simp at h
        subst h
        simp [mapM_len f h2]
/-- The results of 'ParseInts'. -/
def piv (c : UInt8) (s : List UInt8) : List Int := (intsBy c s).getD []
def pib (c : UInt8) (s : List UInt8) : Bool := (intsBy c s).isSome
theorem piv_none {c : UInt8} {s : List UInt8} (h : intsBy c s = none) : piv c s = [] := by rw [piv, h]; rfl
theorem pib_none {c : UInt8} {s : List UInt8} (h : intsBy c s = none) : pib c s = false := by rw [pib, h]; rfl
theorem piv_some {c : UInt8} {s : List UInt8} {x : List Int} (h : intsBy c s = some x) : piv c s = x := by rw [piv, h]; rfl
theorem pib_some {c : UInt8} {s : List UInt8} {x : List Int} (h : intsBy c s = some x) : pib c s = true := by rw [pib, h]; rfl
theorem intsBy_ne {c : UInt8} {s : List UInt8} (h : s ≠ []) : intsBy c s = (sp c s).mapM parseI := by rw [intsBy, if_neg h]
theorem pib_some' {x : List UInt8} {n : Int} (h : parseI x = some n) : pv x = n ∧ pb x = true := by rw [pv, pb, h]; exact ⟨rfl, rfl⟩
theorem pib_none' {x : List UInt8} (h : parseI x = none) : pb x = false := by rw [pb, h]; rfl
theorem ne_of_size {s : ByteArray} (h : s.size ≠ 0) : s.data.toList ≠ [] := by
  intro e
  have := congrArg List.length e
  rw [slen] at this
  exact h this
theorem sp_piece_le {c : UInt8} : ∀ {l : List UInt8} {p : List UInt8}, p ∈ sp c l → p.length ≤ l.length
  | [], p, h => by simp [sp] at h; subst h; simp
  | b :: l, p, h => by
    rw [sp] at h
    split at h
    · rcases List.mem_cons.1 h with rfl | h
      · simp
      · have := sp_piece_le h; rw [List.length_cons]; omega
    · obtain ⟨x, t, ht⟩ := sp_shape c l
      rw [ht] at h
      rcases List.mem_cons.1 h with rfl | h
      · have : x.length ≤ l.length := sp_piece_le (c := c) (l := l) (by rw [ht]; simp)
        simp; exact this
      · have : p.length ≤ l.length := sp_piece_le (c := c) (l := l) (by rw [ht]; exact List.mem_cons_of_mem _ h)
        rw [List.length_cons]; omega
theorem beq_no {s : ByteArray} (h : s.size ≠ 0) : (s.toList == ([] : List UInt8)) = false := by
  rw [beq_eq_false_iff_ne, ByteArray.toList_eq]; exact ne_of_size h
theorem is_empty {s : ByteArray} (h : s.size = 0) : s = ⟨#[]⟩ := by
  apply str_eq
  have : s.data.toList.length = 0 := by rw [slen]; exact h
  rw [List.eq_nil_of_length_eq_zero this]

/-- Two results: a list of the call's own, and whether. -/
structure ParR (w w' : World) (e : Ending) (x : List Int) (b : Bool) : Prop where
  out : ∃ v, e = .returned (.tuple #[v, .bool b]) ∧ OwnI w' w.heap.size v x ∧ Ext w w'
set_option maxHeartbeats 1000000 in
theorem parseIntList_any (s : ByteArray) (c : UInt8) (w : World) (hs : s.size ≤ 1073741824) (hT : AllV w) : Calls Tryd.prog 59 #[.string s, .string ⟨#[c]⟩] w fun e w' => ParR w w' e (piv c s.data.toList) (pib c s.data.toList) := by
  by_cases h0 : s.size = 0
  · obtain rfl := is_empty h0
    go_enter Tryd.func59, Tryd.ntmps59
    go_wp2
    go_ret2
    exact ⟨⟨_, rfl, OwnI.nil _ _, (by repeat' (first | (with_reducible exact Ext.refl _) | (with_reducible assumption) | (with_reducible apply Ext.alloc) | (with_reducible apply Ext.drew) | (with_reducible apply Ext.drewN) | (refine Ext.setAt ?_ (by omega) _ _) | (refine Ext.trans ?_ (by assumption))))⟩⟩
  have hb0 := beq_no h0
  have hne := ne_of_size h0
  have hint := intsBy_ne (c := c) hne
  clear hne h0
  have hpl : ∀ p ∈ sp c s.data.toList, p.length ≤ s.size := fun p hp => by have := sp_piece_le hp; rwa [slen] at this
  go_enter Tryd.func59, Tryd.ntmps59
  go_wp2_with fail
  refine (split_any s c _ hs hT.maxl).mono ?_; rintro e1 w1 ⟨rfl, hB, h1⟩
  have hle := sp_le c s
  obtain ⟨ps, hps⟩ : ∃ ps, sp c s.data.toList = ps := ⟨_, rfl⟩
  rw [hps] at hB hle hint hpl ⊢
  have HINT := Lib.hid hint; clear hint hps
  have HPL := Lib.hid hpl; clear hpl
  have hs1 := h1.size
  have hb0 := hB.lt
  go_wp2_with fail
  go_loopw [6, 17] (fun q i wr => ∃ j : Nat, ∃ xs : List Int, j ≤ ps.length ∧ i = .int .i64 j ∧ Hid ((ps.take j).mapM parseI = some xs) ∧ OwnI wr (w.heap.size + 1) q xs ∧ Blk wr w.heap.size 9 (strs (mkSs ps)) ∧ Ext w wr) (fun q i _ => ps.length - (RowKit.intOf i).toNat)
  case atStart => exact ⟨0, [], Nat.zero_le _, rfl, Lib.hid rfl, OwnI.nil _ _, hB, h1⟩
  case round =>
    obtain ⟨j, xs, hj, rfl, HM, hQ, hBr, hE⟩ := hrel
    have hsE := hE.size
    have hbl := hBr.lt
    by_cases hlt : j < ps.length
    · obtain ⟨x, hx⟩ : ∃ x, ps[j]? = some x := ⟨_, List.getElem?_eq_getElem hlt⟩
      have hcell := hBr.cell (j := j) (u := .string (mkS x)) (by rw [strs_get, mkSs_get, hx]; rfl)
      have hxs : (mkS x).size ≤ 1099511627776 := by rw [mkS_size]; have := HPL.out x (List.mem_of_getElem? hx); omega
      have hP : ∀ w, Errs w → Calls Tryd.prog 33 #[.string (mkS x)] w fun e w' => e = .returned (.tuple #[.int .i64 (pv x), .bool (pb x)]) ∧ Ext w w' := fun w he => by
        have := parseInt_impl (mkS x) hxs w he
        rwa [mkS_list] at this
      have HP := Lib.hid hP
      obtain ⟨z, hz⟩ : ∃ z, mkS x = z := ⟨_, rfl⟩
      rw [hz] at hcell HP
      have HX := Lib.hid hx
      clear hx hz hP hxs
      go_wp2_with fail
      refine (HP.out _ (hT.errs.ext hE)).mono ?_; rintro e2 w2 ⟨rfl, h2⟩
      have HB2 := hBr.ext h2
      cases hpar : parseI x with
      | none =>
        have hpb := pib_none' hpar
        rw [hpb]
        have hin : intsBy c s.data.toList = none := by rw [HINT.out]; exact mapM_none _ (List.mem_of_getElem? HX.out) hpar
        have hin1 := Lib.hid (piv_none hin); have hin2 := Lib.hid (pib_none hin)
        clear hin hpar hpb
        go_wp2
        go_ret2
        exact ⟨⟨_, by rw [hin2.out]; rfl, by rw [hin1.out]; exact OwnI.nil _ _, hE.trans h2⟩⟩
      | some n =>
        obtain ⟨hpv, hpb⟩ := pib_some' hpar
        rw [hpv, hpb]
        have HN := Lib.hid hpar
        clear hpv hpb hpar
        have hQ2 := hQ.ext h2
        have hs2 := h2.size
        obtain ⟨aq, cq, hqv, hq1, hq2⟩ := hQ2.ints.val
        subst hqv
        have hxl : xs.length = j := by have := mapM_len _ HM.out; rw [List.length_take] at this; omega
        rw [hxl] at hq1 hQ2 ⊢
        have HXL := Lib.hid hxl
        have hqb : ∀ q, (Value.slice aq j cq).ownBlock = some q → w.heap.size + 1 ≤ q := fun q hq => (hQ2.block_lt hq).1
        have HQB := Lib.hid hqb; clear hqb hxl
        go_wp2_with (at_builtin; refine wpList_app _ rfl _ _ 35 rfl _ _ rfl rfl _ (run_push _ w2 (w.heap.size + 1) (.slice aq j cq) xs n hQ2 (by rw [HXL.out]; omega) (by omega)) ?_; rintro v4 w4 ⟨o4, g4, _⟩)
        go_roundw
        case rel =>
          refine ⟨j + 1, xs ++ [n], by omega, by go_num, Lib.hid ?_, o4, HB2.block (g4.block _ (by omega) (fun e => by have := HQB.out _ e.symm; omega)), (hE.trans h2).only g4 (fun q hq => by have := HQB.out q hq; omega)⟩
          obtain ⟨hlt', e⟩ := List.getElem?_eq_some_iff.1 HX.out
          rw [List.take_succ_eq_append_getElem hlt', e]
          exact mapM_snoc _ HM.out HN.out
        case measure => simp [RowKit.intOf] <;> omega
    · have : j = ps.length := by omega
      subst this
      have hm := HM.out
      rw [List.take_length] at hm
      have hin : intsBy c s.data.toList = some xs := by rw [HINT.out]; exact hm
      have hin1 := Lib.hid (piv_some hin); have hin2 := Lib.hid (pib_some hin)
      clear hin hm
      go_wp2
      go_ret2
      exact ⟨⟨_, by rw [hin2.out]; rfl, by rw [hin1.out]; exact hQ.mono (by omega), hE⟩⟩
theorem parseInts_impl (s : ByteArray) (w : World) (hs : s.size ≤ 1073741824) (hT : AllV w) : Calls Tryd.prog 35 #[.string s] w fun e w' => ParR w w' e (piv 32 s.data.toList) (pib 32 s.data.toList) := by
  go_enter Tryd.func35, Tryd.ntmps35
  go_wp2_with fail
  refine (parseIntList_any s 32 _ hs hT).mono ?_; rintro e1 w1 ⟨v1, rfl, o1, h1⟩
  go_wp2
  go_ret2
  exact ⟨⟨_, rfl, o1, h1⟩⟩

/-- What is left of the pieces: one that began at k; or nothing. -/
def PSt (c : UInt8) (l : List UInt8) (j k : Nat) (done : List (List UInt8)) : Prop := (k ≤ j ∧ j ≤ l.length ∧ c ∉ (l.take j).drop k ∧ done ++ sp c (l.drop k) = sp c l) ∨ (j = l.length + 1 ∧ done = sp c l)

theorem pst_len {c : UInt8} {l : List UInt8} {j k : Nat} {done : List (List UInt8)} (h : PSt c l j k done) : done.length ≤ l.length + 1 := by
  have e := sp_length c l
  have := List.count_le_length (a := c) (l := l)
  rcases h with ⟨_, _, _, h⟩ | ⟨_, h⟩
  · rw [← h, List.length_append] at e; omega
  · rw [h]; omega
theorem pst_gap {c : UInt8} {l : List UInt8} {j k : Nat} {done : List (List UInt8)} (h : PSt c l j k done) (hj : l[j]? = some c) : PSt c l (j + 1) (j + 1) (done ++ [(l.take j).drop k]) := by
  have hlt := (List.getElem?_eq_some_iff.1 hj).1
  rcases h with ⟨h1, h2, h3, h4⟩ | ⟨h1, _⟩
  · refine .inl ⟨Nat.le_refl _, by omega, ?_, ?_⟩
    · rw [List.drop_eq_nil_of_le (by rw [List.length_take]; omega)]; simp
    · rw [← h4, List.append_assoc]
      congr 1
      rw [piece_at h1 hj, sp_at h3]; rfl
  · omega
theorem pst_end {c : UInt8} {l : List UInt8} {k k' : Nat} {done : List (List UInt8)} (h : PSt c l l.length k done) : PSt c l (l.length + 1) k' (done ++ [(l.take l.length).drop k]) := by
  rcases h with ⟨h1, h2, h3, h4⟩ | ⟨h1, _⟩
  · refine .inr ⟨rfl, ?_⟩
    rw [← h4]
    congr 1
    rw [List.take_length] at h3 ⊢
    rw [sp_none h3]
  · omega
theorem pst_more {c d : UInt8} {l : List UInt8} {j k : Nat} {done : List (List UInt8)} (h : PSt c l j k done) (hj : l[j]? = some d) (hd : d ≠ c) : PSt c l (j + 1) k done := by
  have hlt := (List.getElem?_eq_some_iff.1 hj).1
  rcases h with ⟨h1, h2, h3, h4⟩ | ⟨h1, _⟩
  · exact .inl ⟨by omega, by omega, piece_more h1 hj h3 hd, h4⟩
  · omega
theorem pst_fin {c : UInt8} {l : List UInt8} {k : Nat} {done : List (List UInt8)} (h : PSt c l (l.length + 1) k done) : done = sp c l := by
  rcases h with ⟨_, h2, _⟩ | ⟨_, h⟩
  · omega
  · exact h
/-- A piece that is cut is one of the pieces. -/
theorem pst_mem {c : UInt8} {l : List UInt8} {j k j' k' : Nat} {done : List (List UInt8)} {x : List UInt8} (h : PSt c l j k (done ++ [x])) : x ∈ sp c l := by
  rcases h with ⟨_, _, _, h⟩ | ⟨_, h⟩
  · rw [← h]; simp
  · rw [← h]; simp

theorem OwnI.empty' {w : World} {B b : Nat} (hb : B ≤ b) (hs : b = w.heap.size) : OwnI (w.alloc (.cells #[] 3)) B (.slice (some ⟨b, 0, none⟩) 0 0) [] := by
  subst hs; exact OwnI.of (l := []) hb (Blk.new w #[] 3) (by simp [maxLen])
set_option maxHeartbeats 2000000 in
theorem parseInts_spec (s : ByteArray) (w : World) (hs : s.size ≤ 1073741824) : Calls Tryd.prog 34 #[.string s] w fun e w' => ParR w w' e (piv 32 s.data.toList) (pib 32 s.data.toList) := by
  by_cases h0 : s.size = 0
  · obtain rfl := is_empty h0
    go_enter Tryd.func34, Tryd.ntmps34
    go_wp2_with fail
    go_loopw [4, 5, 6] (fun q f i wr => i = .int .i64 0 ∧ OwnI wr w.heap.size q [] ∧ Ext w wr) (fun q f i _ => 0)
    case atStart => exact ⟨rfl, OwnI.empty' (Nat.le_refl _) rfl, (by repeat' (first | (with_reducible exact Ext.refl _) | (with_reducible assumption) | (with_reducible apply Ext.alloc) | (with_reducible apply Ext.drew) | (with_reducible apply Ext.drewN) | (refine Ext.setAt ?_ (by omega) _ _) | (refine Ext.trans ?_ (by assumption))))⟩
    case round =>
      obtain ⟨rfl, hQ, hE⟩ := hrel
      go_wp2
      go_ret2
      exact ⟨⟨_, rfl, hQ, hE⟩⟩
  have hp0 : 0 < s.size := by omega
  have hsl := slen s
  have hint := intsBy_ne (c := 32) (ne_of_size h0)
  have HSL := Lib.hid hsl
  have HINT := Lib.hid hint; clear hint hsl h0
  go_enter Tryd.func34, Tryd.ntmps34
  go_wp2_with fail
  go_loopw [4, 5, 6] (fun q f i wr => ∃ j : Nat, ∃ k : Nat, ∃ done : List (List UInt8), ∃ xs : List Int, j ≤ s.size + 1 ∧ i = .int .i64 j ∧ f = .int .i64 k ∧ k ≤ j ∧ Hid (PSt 32 s.data.toList j k done) ∧ Hid (done.mapM parseI = some xs) ∧ OwnI wr w.heap.size q xs ∧ Ext w wr) (fun q f i _ => s.size + 1 - (RowKit.intOf i).toNat)
  case atStart => exact ⟨0, 0, [], [], Nat.zero_le _, rfl, rfl, Nat.le_refl _, Lib.hid (.inl ⟨Nat.le_refl _, Nat.zero_le _, by simp, rfl⟩), Lib.hid rfl, OwnI.empty' (Nat.le_refl _) rfl, (by repeat' (first | (with_reducible exact Ext.refl _) | (with_reducible assumption) | (with_reducible apply Ext.alloc) | (with_reducible apply Ext.drew) | (with_reducible apply Ext.drewN) | (refine Ext.setAt ?_ (by omega) _ _) | (refine Ext.trans ?_ (by assumption))))⟩
  case round =>
    obtain ⟨j, k, done, xs, hj, rfl, rfl, hkj, HW, HM, hQ, hE⟩ := hrel
    have hsE := hE.size
    by_cases hend : j = s.size + 1
    · subst hend
      have hd := HW.out
      rw [← HSL.out] at hd
      have hin : intsBy 32 s.data.toList = some xs := by rw [HINT.out, ← pst_fin hd]; exact HM.out
      have hin1 := Lib.hid (piv_some hin); have hin2 := Lib.hid (pib_some hin)
      clear hin hd
      go_wp2
      go_ret2
      exact ⟨⟨_, by rw [hin2.out]; rfl, by rw [hin1.out]; exact hQ, hE⟩⟩
    have hj' : j ≤ s.size := by omega
    clear hj
    have hstep : ∀ hgap : PSt 32 s.data.toList (j + 1) (j + 1) (done ++ [(s.data.toList.take j).drop k]), ∀ w, Calls Tryd.prog 32 #[.string (s.extract k j)] w fun e w' => e = .returned (.tuple #[.int .i64 (pv ((s.data.toList.take j).drop k)), .bool (pb ((s.data.toList.take j).drop k))]) ∧ Ext w w' := fun _ w => by
      have hz := size_ext s k j (by omega)
      have := parseInt_spec (s.extract k j) (by omega) w
      rwa [ext_list] at this
    by_cases hgap : j = s.size ∨ s.data.toList[j]? = some 32
    · have hps : PSt 32 s.data.toList (j + 1) (j + 1) (done ++ [(s.data.toList.take j).drop k]) := by
        rcases hgap with rfl | h
        · have := pst_end (k' := s.size + 1) (c := 32) (l := s.data.toList) (k := k) (done := done) (by rw [HSL.out]; exact HW.out)
          rw [HSL.out] at this; exact this
        · exact pst_gap HW.out h
      have hlenx := pst_len hps
      rw [HSL.out] at hlenx
      have hlx := mapM_len _ HM.out
      have hmem := pst_mem (j' := 0) (k' := 0) hps
      have HP := Lib.hid (hstep hps)
      have HPS := Lib.hid hps
      have HMEM := Lib.hid hmem
      obtain ⟨x, hx⟩ : ∃ x, (s.data.toList.take j).drop k = x := ⟨_, rfl⟩
      obtain ⟨z, hz⟩ : ∃ z, s.extract k j = z := ⟨_, rfl⟩
      rw [hx] at HP HPS HMEM
      rw [hz] at HP
      have HZ := Lib.hid hz
      rw [List.length_append, List.length_singleton] at hlenx
      have hxs : xs.length + 1 ≤ 1099511627776 := by omega
      have HXS := Lib.hid hxs
      clear hstep hps hmem hx hlenx hlx hxs
      have hcond : ((j : Int) == (s.size : Int)) = true ∨ (((j : Int) == (s.size : Int)) = false ∧ ∃ h : j < s.size, s[j] = 32) := by
        rcases hgap with rfl | h
        · exact .inl (by rw [beq_iff_eq])
        · have hlt := (List.getElem?_eq_some_iff.1 h).1
          rw [HSL.out] at hlt
          refine .inr ⟨by rw [beq_eq_false_iff_ne]; omega, hlt, ?_⟩
          have := byte_get hlt
          rw [h] at this
          exact (Option.some.inj this).symm
      clear hgap
      have hno : intsBy 32 s.data.toList = (sp 32 s.data.toList).mapM parseI := HINT.out
      have HNO := Lib.hid hno; clear hno
      cases hpar : parseI x with
      | none =>
        have hpb := Lib.hid (pib_none' hpar)
        have hin : intsBy 32 s.data.toList = none := by rw [HNO.out]; exact mapM_none _ HMEM.out hpar
        have hin1 := Lib.hid (piv_none hin); have hin2 := Lib.hid (pib_none hin)
        clear hin hpar
        have hR : ∀ w, Calls Tryd.prog 32 #[.string z] w fun e w' => e = .returned (.tuple #[.int .i64 (pv x), .bool false]) ∧ Ext w w' := fun w => by rw [← hpb.out]; exact HP.out w
        have HR := Lib.hid hR; clear hR
        rcases hcond with hc1 | ⟨hc1, hc2, hc3⟩
        · go_wp2_with fail
          refine (HR.out _).mono ?_; rintro e2 w2 ⟨rfl, h2⟩
          go_wp2
          go_ret2
          exact ⟨⟨_, by rw [hin2.out]; rfl, by rw [hin1.out]; exact OwnI.nil _ _, hE.trans h2⟩⟩
        · go_wp2_with fail
          refine (HR.out _).mono ?_; rintro e2 w2 ⟨rfl, h2⟩
          go_wp2
          go_ret2
          exact ⟨⟨_, by rw [hin2.out]; rfl, by rw [hin1.out]; exact OwnI.nil _ _, hE.trans h2⟩⟩
      | some n =>
        obtain ⟨hpv, hpb⟩ := pib_some' hpar
        have HN := Lib.hid hpar
        have hR : ∀ w, Calls Tryd.prog 32 #[.string z] w fun e w' => e = .returned (.tuple #[.int .i64 n, .bool true]) ∧ Ext w w' := fun w => by
          have := HP.out w; rwa [hpv, hpb] at this
        have HR := Lib.hid hR
        clear hR hpv hpb hpar
        have HMN := Lib.hid (mapM_snoc _ HM.out HN.out)
        rcases hcond with hc1 | ⟨hc1, hc2, hc3⟩
        · have hc1' := hc1
          go_wp2_with fail
          refine (HR.out _).mono ?_; rintro e2 w2 ⟨rfl, h2⟩
          have hQ2 := hQ.ext h2
          have hs2 := h2.size
          obtain ⟨aq, cq, hqv, hq1, hq2⟩ := hQ2.ints.val
          subst hqv
          have HQB := Lib.hid (fun q (hq : (Value.slice aq xs.length cq).ownBlock = some q) => (hQ2.block_lt hq).1)
          go_wp2_with (at_builtin; refine wpList_app _ rfl _ _ 35 rfl _ _ rfl rfl _ (run_push _ w2 w.heap.size (.slice aq xs.length cq) xs n hQ2 HXS.out (by omega)) ?_; rintro v4 w4 ⟨o4, g4, _⟩)
          go_roundw
          case rel => exact ⟨j + 1, j + 1, done ++ [x], xs ++ [n], by omega, by go_num, by go_num, Nat.le_refl _, HPS, HMN, o4, (hE.trans h2).only g4 (fun q hq => HQB.out q hq)⟩
          case measure => simp [RowKit.intOf] <;> omega
        · go_wp2_with fail
          refine (HR.out _).mono ?_; rintro e2 w2 ⟨rfl, h2⟩
          have hQ2 := hQ.ext h2
          have hs2 := h2.size
          obtain ⟨aq, cq, hqv, hq1, hq2⟩ := hQ2.ints.val
          subst hqv
          have HQB := Lib.hid (fun q (hq : (Value.slice aq xs.length cq).ownBlock = some q) => (hQ2.block_lt hq).1)
          go_wp2_with (at_builtin; refine wpList_app _ rfl _ _ 35 rfl _ _ rfl rfl _ (run_push _ w2 w.heap.size (.slice aq xs.length cq) xs n hQ2 HXS.out (by omega)) ?_; rintro v4 w4 ⟨o4, g4, _⟩)
          go_roundw
          case rel => exact ⟨j + 1, j + 1, done ++ [x], xs ++ [n], by omega, by go_num, by go_num, Nat.le_refl _, HPS, HMN, o4, (hE.trans h2).only g4 (fun q hq => HQB.out q hq)⟩
          case measure => simp [RowKit.intOf] <;> omega
    · have hlt : j < s.size := by
        rcases Nat.lt_or_ge j s.size with h | h
        · exact h
        · exact absurd (.inl (by omega)) hgap
      have hjs : ((j : Int) == (s.size : Int)) = false := by rw [beq_eq_false_iff_ne]; omega
      have hg := byte_get hlt
      have hcc : s[j] ≠ 32 := fun e => hgap (.inr (by rw [hg, e]))
      have hps := Lib.hid (pst_more HW.out hg hcc)
      have hcn := u8ne (n := 32) (by omega) hcc
      simp only [Int.cast_ofNat_Int] at hcn
      clear hstep hgap hg hcc
      go_wp2
      go_roundw
      case rel => exact ⟨j + 1, k, done, xs, by omega, by go_num, rfl, by omega, hps, HM, hQ, hE⟩
      case measure => simp [RowKit.intOf] <;> omega
end Go.Proofs.YtpimpahmhipifaaDoor
