/- Split of the program's library; words and lines of the program and of the reference. -/
import Derived.Test.YtlgjddgajdjllaaGreatDoorQFmtW
import Derived.Test.YtlgjddgajdjllaaGreatDoorQG1
set_option linter.unusedSimpArgs false
set_option linter.unusedVariables false
namespace Go.Proofs.YtlgjddgajdjllaaGreatDoor
open Go.RowKit
open Go.Lib
def mkSs (l : List (List UInt8)) : List ByteArray := l.map mkS
theorem mkSs_length (l : List (List UInt8)) : (mkSs l).length = l.length := by simp [mkSs]
theorem mkSs_append (l m : List (List UInt8)) : mkSs (l ++ m) = mkSs l ++ mkSs m := by simp [mkSs]
theorem mkSs_map (l : List ByteArray) : mkSs (l.map (·.data.toList)) = l := by
  induction l with
  | nil => rfl
  | cons x l ih => rw [List.map_cons, mkSs, List.map_cons]; rw [mkSs] at ih; rw [ih, mkS_of]
theorem mkSs_get (l : List (List UInt8)) (j : Nat) : (mkSs l)[j]? = l[j]?.map mkS := by simp [mkSs]
theorem slen (s : ByteArray) : s.data.toList.length = s.size := Array.length_toList
theorem split_any (s : ByteArray) (c : UInt8) (w : World) (hs : s.size ≤ 1073741824) (hM : Maxl w) : Calls Tryz.prog 53 #[.string s, .string ⟨#[c]⟩] w fun e w' =>
    e = .returned (.slice (some ⟨w.heap.size, 0, none⟩) (sp c s.data.toList).length (sp c s.data.toList).length) ∧ Blk w' w.heap.size 9 (strs (mkSs (sp c s.data.toList))) ∧ Ext w w' := by
  obtain ⟨m, hm⟩ := hM.has
  refine (Tryz.strings_Split s ⟨#[c]⟩ m w (by omega) hm (Nat.le_refl 1)).mono ?_
  rintro e w' ⟨rfl, rfl⟩
  have h1 := splitB_data ⟨#[c]⟩ 0 (countB s ⟨#[c]⟩) s
  have h2 : split s.data.toList [c] = sp c s.data.toList := split_sp' c _
  have h3 : (splitB ⟨#[c]⟩ 0 (countB s ⟨#[c]⟩) s).map (·.data.toList) = sp c s.data.toList := by rw [h1, ← h2]; rfl
  have h4 := splitB_all ⟨#[c]⟩ (Nat.le_refl 1) 0 _ s rfl
  have h5 : (sp c s.data.toList).length = countB s ⟨#[c]⟩ + 1 := by rw [← h3, List.length_map, h4]
  rw [h5]
  refine ⟨by simp, ?_, (Ext.refl _).alloc _⟩
  rw [← h3, mkSs_map]
  exact Blk.new w _ _
theorem sp_le (c : UInt8) (s : ByteArray) : (sp c s.data.toList).length ≤ s.size + 1 := by
  rw [sp_length]
  have := List.count_le_length (a := c) (l := s.data.toList)
  rw [slen] at this
  omega
theorem words_le (s : List UInt8) : (wordsL s).length ≤ s.length + 1 := by
  have h := List.length_filter_le (fun w => !w.isEmpty) (sp 32 s)
  rw [sp_length] at h
  have := List.count_le_length (a := (32 : UInt8)) (l := s)
  rw [wordsL]; omega
set_option maxHeartbeats 1000000 in
theorem lines_impl (s : ByteArray) (w : World) (hs : s.size ≤ 1073741824) (hM : Maxl w) : Calls Tryz.prog 18 #[.string s] w fun e w' =>
    ∃ v, e = .returned v ∧ OwnStr w' w.heap.size v (mkSs (linesL s.data.toList)) ∧ Ext w w' := by
  go_enter Tryz.func18, Tryz.ntmps18
  go_wp2_with fail
  refine (split_any s 10 _ hs hM).mono ?_; rintro e1 w1 ⟨rfl, hB, h1⟩
  have hle := sp_le 10 s
  have hne := sp_ne 10 s.data.toList
  obtain ⟨ps, hps⟩ : ∃ ps, sp 10 s.data.toList = ps := ⟨_, rfl⟩
  rw [hps] at hB hle hne ⊢
  have hpos : 0 < ps.length := List.length_pos_iff.2 hne
  obtain ⟨x, hx⟩ : ∃ x, ps[ps.length - 1]? = some x := ⟨_, List.getElem?_eq_getElem (by omega)⟩
  have hcell := hB.cell (j := ps.length - 1) (u := .string (mkS x)) (by rw [strs_get, mkSs_get, hx]; rfl)
  have hlast : ps.getLastD [] = x := by rw [List.getLastD_eq_getLast?, List.getLast?_eq_getElem?, hx]; rfl
  have hpi : ((ps.length - 1 : Nat) : Int) = (ps.length : Int) - 1 := by omega
  have hll : linesL s.data.toList = if x = [] then ps.dropLast else ps := by rw [linesL, hps, hlast]
  obtain ⟨z, hz⟩ : ∃ z, mkS x = z := ⟨_, rfl⟩
  rw [hz] at hcell
  have hzx : x = z.data.toList := by rw [← hz, mkS_list]
  have HLL := Lib.hid hll; have HZX := Lib.hid hzx
  clear hll hzx hz hps hx hlast hne
  by_cases hz0 : z.size = 0
  · have hze : z = ⟨#[]⟩ := by
      apply str_eq
      have : z.data.toList.length = 0 := by rw [slen]; exact hz0
      rw [List.eq_nil_of_length_eq_zero this]
    subst hze
    clear hz0
    go_wp2
    go_ret
    refine ⟨_, rfl, ?_, h1⟩
    rw [HLL.out, HZX.out, if_pos rfl]
    have hne : ps ≠ [] := List.length_pos_iff.1 hpos
    have hsplit := List.dropLast_concat_getLast hne
    have hB2 := hB
    rw [← hsplit, mkSs_append, strs_append] at hB2
    have hdl : ps.dropLast.length = ps.length - 1 := List.length_dropLast
    refine ⟨.inr ⟨w.heap.size, strs (mkSs [ps.getLast hne]), Nat.le_refl _, ?_, hB2, ?_⟩⟩
    · show Value.slice (some ⟨w.heap.size, 0, none⟩) (ps.length - 1) ps.length = _
      rw [mkSs_length, hdl, strs_length, mkSs_length, List.length_singleton]
      congr 1; omega
    · rw [mkSs_length, hdl, strs_length, mkSs_length, List.length_singleton]; unfold maxLen; omega
  · have hzb : (z.toList == ([] : List UInt8)) = false := by
      rw [beq_eq_false_iff_ne, ByteArray.toList_eq]
      intro e
      have := congrArg List.length e
      rw [slen] at this
      exact hz0 this
    go_wp2
    go_ret
    refine ⟨_, rfl, ?_, h1⟩
    have hxe : x ≠ [] := fun e => hz0 (by rw [← slen, ← HZX.out, e]; rfl)
    rw [HLL.out, if_neg hxe]
    refine ⟨.inr ⟨_, [], Nat.le_refl _, by rw [mkSs_length]; rfl, by simpa using hB, by rw [mkSs_length]; unfold maxLen; simp; omega⟩⟩
theorem ext_list (s : ByteArray) (k j : Nat) : (s.extract k j).data.toList = (s.data.toList.take j).drop k := by
  rw [ByteArray.data_extract, Array.toList_extract, List.extract_eq_take_drop, List.drop_take]
theorem piece_at {l : List UInt8} {k j : Nat} {c : UInt8} (hk : k ≤ j) (hj : l[j]? = some c) : l.drop k = (l.take j).drop k ++ c :: l.drop (j + 1) := by
  obtain ⟨hlt, rfl⟩ := List.getElem?_eq_some_iff.1 hj
  have h : l.drop j = l[j] :: l.drop (j + 1) := List.drop_eq_getElem_cons hlt
  rw [← h, List.drop_take]
  have : l.drop j = (l.drop k).drop (j - k) := by rw [List.drop_drop]; congr 1; omega
  rw [this, List.take_append_drop]
theorem piece_ne {l : List UInt8} {k j : Nat} (hk : k < j) (hj : j ≤ l.length) : (l.take j).drop k ≠ [] := by
  intro e
  have := congrArg List.length e
  rw [List.length_drop, List.length_take, List.length_nil] at this
  omega
theorem piece_more {l : List UInt8} {k j : Nat} {c d : UInt8} (hk : k ≤ j) (hj : l[j]? = some c) (h : d ∉ (l.take j).drop k) (hc : c ≠ d) : d ∉ (l.take (j + 1)).drop k := by
  obtain ⟨hlt, rfl⟩ := List.getElem?_eq_some_iff.1 hj
  rw [List.take_succ_eq_append_getElem hlt, List.drop_append_of_le_length (by rw [List.length_take]; omega)]
  simp only [List.mem_append, List.mem_singleton, not_or]
  exact ⟨h, fun e => hc e.symm⟩
def WSt (l : List UInt8) (j : Nat) (f : Int) (done : List (List UInt8)) : Prop :=
  (f = -1 ∧ done ++ wordsL (l.drop j) = wordsL l) ∨ ∃ k : Nat, f = k ∧ k < j ∧ j ≤ l.length ∧ 32 ∉ (l.take j).drop k ∧ done ++ wordsL (l.drop k) = wordsL l
theorem byte_get {s : ByteArray} {j : Nat} (h : j < s.size) : s.data.toList[j]? = some s[j] := by
  rw [Array.getElem?_toList]; exact Array.getElem?_eq_getElem h
theorem size_ext (s : ByteArray) (k j : Nat) (h : j ≤ s.size) : (s.extract k j).size ≤ s.size := by
  rw [ByteArray.size_extract]; omega
theorem mk_ext (s : ByteArray) (k j : Nat) : mkS ((s.data.toList.take j).drop k) = s.extract k j := by rw [← ext_list, mkS_of]
theorem u8ne {c : UInt8} {n : Nat} (hn : n < 256) (h : c ≠ UInt8.ofNat n) : ((c.toNat : Int) == (n : Int)) = false := by
  rw [beq_eq_false_iff_ne]
  intro e
  apply h
  have : c.toNat = n := by omega
  rw [← this]; simp
set_option maxHeartbeats 2000000 in
theorem words_spec (s : ByteArray) (w : World) (hs : s.size ≤ 1073741824) : Calls Tryz.prog 35 #[.string s] w fun e w' =>
 ∃ v, e = .returned v ∧ OwnStr w' w.heap.size v (mkSs (wordsL s.data.toList)) ∧ Ext w w' := by
 have hsl := slen s
 have hwl := words_le s.data.toList
 rw [hsl] at hwl
 have HSL := Lib.hid hsl; clear hsl
 have HWL := Lib.hid hwl; clear hwl
 go_enter Tryz.func35, Tryz.ntmps35
 go_wp2_with fail
 go_loopw [3, 4, 5] (fun q f i wr => ∃ j : Nat, ∃ done : List (List UInt8), ∃ fv : Int, j ≤ s.size + 1 ∧ i = .int .i64 j ∧ f = .int .i64 fv ∧ Hid (WSt s.data.toList j fv done) ∧ OwnStr wr w.heap.size q (mkSs done) ∧ Ext w wr) (fun q f i _ => s.size + 1 - (RowKit.intOf i).toNat)
 case atStart => exact ⟨0, [], -1, Nat.zero_le _, rfl, rfl, Lib.hid (.inl ⟨rfl, rfl⟩), OwnStr.empty (Nat.le_refl _) rfl, (by repeat' (first | (with_reducible first | exact Ext.refl _ | assumption | apply Ext.alloc | apply Ext.drew | apply Ext.drewN) | (refine Ext.setAt ?_ (by omega) _ _) | (refine Ext.trans ?_ (by assumption))))⟩
 case round =>
  obtain ⟨j, done, fv, hj, rfl, rfl, HW, hQ, hE⟩ := hrel
  have hsE := hE.size
  obtain ⟨aq, cq, rfl, hq1, hq2⟩ := hQ.strs.val
  have hdl : done.length ≤ s.size + 1 := by
   have := HWL.out
   rcases HW.out with ⟨_, h⟩ | ⟨k, _, _, _, _, h⟩
   · rw [← h, List.length_append] at this; omega
   · rw [← h, List.length_append] at this; omega
  have hqb : ∀ q, (Value.slice aq (mkSs done).length cq).ownBlock = some q → w.heap.size ≤ q := fun q hq => (hQ.block_lt hq).1
  have HQB := Lib.hid hqb; clear hqb
  rw [mkSs_length] at hq1 HQB ⊢
  rw [mkSs_length] at hQ
  have HDL := Lib.hid hdl
  clear hdl
  by_cases hend : j = s.size + 1
  · subst hend
    have hfin : done = wordsL s.data.toList := by
     rcases HW.out with ⟨_, h⟩ | ⟨k, _, _, hk, _, h⟩
     · rw [List.drop_eq_nil_of_le (by rw [HSL.out]; omega), words_nil, List.append_nil] at h; exact h
     · rw [HSL.out] at hk; omega
    go_wp2
    go_ret
    exact ⟨_, rfl, by rw [← hfin]; exact hQ, hE⟩
  have hj' : j ≤ s.size := by omega
  clear hj
  rcases HW.out with ⟨rfl, h⟩ | ⟨k, rfl, hk, _, hc, h⟩
  · have H := Lib.hid h
    clear h HW
    by_cases hlast : j = s.size
    · subst hlast
      go_wp2
      go_roundw
      case rel => exact ⟨s.size + 1, done, -1, by omega, by go_num, rfl, Lib.hid (.inl ⟨rfl, by rw [← H.out, List.drop_eq_nil_of_le (i := s.size + 1) (by rw [HSL.out]; omega), List.drop_eq_nil_of_le (i := s.size) (by rw [HSL.out]; omega)]⟩), hQ, hE⟩
      case measure => simp [RowKit.intOf] <;> omega
    · have hlt : j < s.size := by omega
      have hjs : ((j : Int) == (s.size : Int)) = false := by rw [beq_eq_false_iff_ne]; omega
      have HG := Lib.hid (byte_get hlt)
      obtain ⟨c, hcc⟩ : ∃ c : UInt8, s[j] = c := ⟨_, rfl⟩
      rw [hcc] at HG
      by_cases hsp : c = 32
      · subst hsp
        go_wp2
        go_roundw
        case rel =>
         refine ⟨j + 1, done, -1, by omega, by go_num, rfl, Lib.hid (.inl ⟨rfl, ?_⟩), hQ, hE⟩
         rw [← H.out]
         have := piece_at (Nat.le_refl j) HG.out
         rw [this, List.drop_eq_nil_of_le («as» := s.data.toList.take j) (by rw [List.length_take]; omega), List.nil_append, words_gap]
        case measure => simp [RowKit.intOf] <;> omega
      · have hcn := u8ne (n := 32) (by omega) hsp
        simp only [Int.cast_ofNat_Int] at hcn
        go_wp2
        go_roundw
        case rel =>
         refine ⟨j + 1, done, j, by omega, by go_num, rfl, Lib.hid (.inr ⟨j, rfl, by omega, by rw [HSL.out]; omega, ?_, H.out⟩), hQ, hE⟩
         refine piece_more (Nat.le_refl j) HG.out ?_ hsp
         rw [List.drop_eq_nil_of_le (by rw [List.length_take]; omega)]; simp
        case measure => simp [RowKit.intOf] <;> omega
  · have HC := Lib.hid hc
    have H := Lib.hid h
    have hpn := piece_ne hk (by rw [HSL.out]; exact hj' : j ≤ s.data.toList.length)
    have HPN := Lib.hid hpn
    clear h hc HW hpn
    have hme := Lib.hid (mk_ext s k j)
    by_cases hlast : j = s.size
    · subst hlast
      obtain ⟨z, hz⟩ : ∃ z, s.extract k s.size = z := ⟨_, rfl⟩
      have HZ := Lib.hid hz
      go_wp2_with (at_builtin; refine wpList_app _ rfl _ _ 43 rfl _ _ rfl rfl _ (run_pushS _ wr w.heap.size (.slice aq done.length cq) (mkSs done) z (by exact hQ) (by have := HDL.out; rw [mkSs_length]; omega) (by omega)) ?_; rintro v4 w4 ⟨o4, g4, _⟩)
      go_roundw
      case rel =>
       refine ⟨s.size + 1, done ++ [(s.data.toList.take s.size).drop k], -1, by omega, by go_num, rfl, Lib.hid (.inl ⟨rfl, ?_⟩), ?_, hE.only g4 (fun q hq => HQB.out q hq)⟩
       · rw [← H.out, List.append_assoc, List.drop_eq_nil_of_le (i := s.size + 1) (by rw [HSL.out]; omega)]
         congr 1
         have e : s.data.toList.take s.size = s.data.toList := List.take_of_length_le (by rw [HSL.out]; omega)
         have h1 := HC.out; have h2 := HPN.out
         rw [e] at h1 h2 ⊢
         rw [words_end h1 h2]; rfl
       · rw [mkSs_append, show mkSs [(s.data.toList.take s.size).drop k] = [z] by rw [mkSs, List.map_singleton, hme.out, HZ.out]]
         exact o4
      case measure => simp [RowKit.intOf] <;> omega
    · have hlt : j < s.size := by omega
      have hjs : ((j : Int) == (s.size : Int)) = false := by rw [beq_eq_false_iff_ne]; omega
      have HG := Lib.hid (byte_get hlt)
      obtain ⟨c, hcc⟩ : ∃ c : UInt8, s[j] = c := ⟨_, rfl⟩
      rw [hcc] at HG
      by_cases hsp : c = 32
      · subst hsp
        obtain ⟨z, hz⟩ : ∃ z, s.extract k j = z := ⟨_, rfl⟩
        have HZ := Lib.hid hz
        go_wp2_with (at_builtin; refine wpList_app _ rfl _ _ 43 rfl _ _ rfl rfl _ (run_pushS _ wr w.heap.size (.slice aq done.length cq) (mkSs done) z (by exact hQ) (by have := HDL.out; rw [mkSs_length]; omega) (by omega)) ?_; rintro v4 w4 ⟨o4, g4, _⟩)
        go_roundw
        case rel =>
         refine ⟨j + 1, done ++ [(s.data.toList.take j).drop k], -1, by omega, by go_num, rfl, Lib.hid (.inl ⟨rfl, ?_⟩), ?_, hE.only g4 (fun q hq => HQB.out q hq)⟩
         · rw [← H.out, List.append_assoc]
           congr 1
           rw [piece_at (Nat.le_of_lt hk) HG.out, words_at HC.out HPN.out]; rfl
         · rw [mkSs_append, show mkSs [(s.data.toList.take j).drop k] = [z] by rw [mkSs, List.map_singleton, hme.out, HZ.out]]
           exact o4
        case measure => simp [RowKit.intOf] <;> omega
      · have hcn := u8ne (n := 32) (by omega) hsp
        simp only [Int.cast_ofNat_Int] at hcn
        go_wp2
        go_roundw
        case rel => exact ⟨j + 1, done, k, by omega, by go_num, rfl, Lib.hid (.inr ⟨k, rfl, by omega, by rw [HSL.out]; omega, piece_more (Nat.le_of_lt hk) HG.out HC.out hsp, H.out⟩), hQ, hE⟩
        case measure => simp [RowKit.intOf] <;> omega
def LSt (l : List UInt8) (j k : Nat) (done : List (List UInt8)) : Prop := k ≤ j ∧ j ≤ l.length ∧ 10 ∉ (l.take j).drop k ∧ done ++ linesL (l.drop k) = linesL l
theorem lines_le (s : List UInt8) : (linesL s).length ≤ s.length + 1 := by
  have h := sp_length 10 s
  have := List.count_le_length (a := (10 : UInt8)) (l := s)
  rw [linesL]
  split
  · rw [List.length_dropLast]; omega
  · omega
set_option maxHeartbeats 2000000 in
theorem lines_spec (s : ByteArray) (w : World) (hs : s.size ≤ 1073741824) : Calls Tryz.prog 33 #[.string s] w fun e w' =>
 ∃ v, e = .returned v ∧ OwnStr w' w.heap.size v (mkSs (linesL s.data.toList)) ∧ Ext w w' := by
 have hsl := slen s
 have hwl := lines_le s.data.toList
 rw [hsl] at hwl
 have HSL := Lib.hid hsl; clear hsl
 have HWL := Lib.hid hwl; clear hwl
 go_enter Tryz.func33, Tryz.ntmps33
 go_wp2_with fail
 go_loopw [3, 4, 5] (fun q f i wr => ∃ j : Nat, ∃ done : List (List UInt8), ∃ k : Nat, j ≤ s.size ∧ i = .int .i64 j ∧ f = .int .i64 k ∧ k ≤ j ∧ Hid (LSt s.data.toList j k done) ∧ OwnStr wr w.heap.size q (mkSs done) ∧ Ext w wr) (fun q f i _ => s.size - (RowKit.intOf i).toNat)
 case atStart => exact ⟨0, [], 0, Nat.zero_le _, rfl, rfl, Nat.le_refl _, Lib.hid ⟨Nat.le_refl _, Nat.zero_le _, by simp, rfl⟩, OwnStr.empty (Nat.le_refl _) rfl, (by repeat' (first | (with_reducible first | exact Ext.refl _ | assumption | apply Ext.alloc | apply Ext.drew | apply Ext.drewN) | (refine Ext.setAt ?_ (by omega) _ _) | (refine Ext.trans ?_ (by assumption))))⟩
 case round =>
  obtain ⟨j, done, k, hj, rfl, rfl, hkj, HW, hQ, hE⟩ := hrel
  have hsE := hE.size
  obtain ⟨aq, cq, rfl, hq1, hq2⟩ := hQ.strs.val
  have hdl : done.length ≤ s.size + 1 := by
   have := HWL.out
   rw [← HW.out.2.2.2, List.length_append] at this; omega
  have hqb : ∀ q, (Value.slice aq (mkSs done).length cq).ownBlock = some q → w.heap.size ≤ q := fun q hq => (hQ.block_lt hq).1
  have HQB := Lib.hid hqb; clear hqb
  rw [mkSs_length] at hq1 HQB ⊢
  rw [mkSs_length] at hQ
  have HDL := Lib.hid hdl
  clear hdl
  have hme := Lib.hid (mk_ext s k j)
  by_cases hlt : j < s.size
  · have HG := Lib.hid (byte_get hlt)
    obtain ⟨c, hcc⟩ : ∃ c : UInt8, s[j] = c := ⟨_, rfl⟩
    rw [hcc] at HG
    by_cases hsp : c = 10
    · subst hsp
      obtain ⟨z, hz⟩ : ∃ z, s.extract k j = z := ⟨_, rfl⟩
      have HZ := Lib.hid hz
      go_wp2_with (at_builtin; refine wpList_app _ rfl _ _ 43 rfl _ _ rfl rfl _ (run_pushS _ wr w.heap.size (.slice aq done.length cq) (mkSs done) z (by exact hQ) (by have := HDL.out; rw [mkSs_length]; omega) (by omega)) ?_; rintro v4 w4 ⟨o4, g4, _⟩)
      go_roundw
      case rel =>
       refine ⟨j + 1, done ++ [(s.data.toList.take j).drop k], j + 1, by omega, by go_num, by go_num, Nat.le_refl _, Lib.hid ⟨Nat.le_refl _, by rw [HSL.out]; omega, ?_, ?_⟩, ?_, hE.only g4 (fun q hq => HQB.out q hq)⟩
       · rw [List.drop_eq_nil_of_le (by rw [List.length_take]; omega)]; simp
       · rw [← HW.out.2.2.2, List.append_assoc]
         congr 1
         rw [piece_at hkj HG.out, lines_at HW.out.2.2.1]; rfl
       · rw [mkSs_append, show mkSs [(s.data.toList.take j).drop k] = [z] by rw [mkSs, List.map_singleton, hme.out, HZ.out]]
         exact o4
      case measure => simp [RowKit.intOf] <;> omega
    · have hcn := u8ne (n := 10) (by omega) hsp
      simp only [Int.cast_ofNat_Int] at hcn
      go_wp2
      go_roundw
      case rel => exact ⟨j + 1, done, k, by omega, by go_num, rfl, by omega, Lib.hid ⟨by omega, by rw [HSL.out]; omega, piece_more hkj HG.out HW.out.2.2.1 hsp, HW.out.2.2.2⟩, hQ, hE⟩
      case measure => simp [RowKit.intOf] <;> omega
  · have : j = s.size := by omega
    subst this
    have e : s.data.toList.take s.size = s.data.toList := List.take_of_length_le (by rw [HSL.out]; omega)
    have hc := HW.out.2.2.1
    rw [e] at hc
    have HC := Lib.hid hc
    have H := Lib.hid HW.out.2.2.2
    clear hc e
    by_cases hk : k < s.size
    · obtain ⟨z, hz⟩ : ∃ z, s.extract k s.size = z := ⟨_, rfl⟩
      have HZ := Lib.hid hz
      go_wp2_with (at_builtin; refine wpList_app _ rfl _ _ 43 rfl _ _ rfl rfl _ (run_pushS _ wr w.heap.size (.slice aq done.length cq) (mkSs done) z (by exact hQ) (by have := HDL.out; rw [mkSs_length]; omega) (by omega)) ?_; rintro v4 w4 ⟨o4, g4, _⟩)
      go_ret
      refine ⟨_, rfl, ?_, hE.only g4 (fun q hq => HQB.out q hq)⟩
      have hne : s.data.toList.drop k ≠ [] := by
       intro e
       have := congrArg List.length e
       rw [List.length_drop, HSL.out, List.length_nil] at this
       omega
      rw [← H.out, lines_end HC.out hne, mkSs_append, show mkSs [s.data.toList.drop k] = [z] by
       have e : s.data.toList.take s.size = s.data.toList := List.take_of_length_le (by rw [HSL.out]; omega)
       have := hme.out
       rw [e] at this
       rw [mkSs, List.map_singleton, this, HZ.out]]
      exact o4
    · go_wp2
      go_ret
      refine ⟨_, rfl, ?_, hE⟩
      rw [← H.out, List.drop_eq_nil_of_le (by rw [HSL.out]; omega), lines_nil, List.append_nil]
      exact hQ
end Go.Proofs.YtlgjddgajdjllaaGreatDoor
