/- ParseInt of the program and of the reference. -/
import Derived.Test.YtlgjddgajdjllaaGreatDoorQItoaW
import Derived.Test.YtlgjddgajdjllaaGreatDoorQG1
set_option linter.unusedSimpArgs false
set_option linter.unusedVariables false
namespace Go.Proofs.YtlgjddgajdjllaaGreatDoor
open Go.RowKit
open Go.Lib
theorem str_beq_no {z s : ByteArray} (h : z.data.toList ≠ s.data.toList) : (z.toList == s.toList) = false := by
  rw [beq_eq_false_iff_ne]
  intro e
  apply h
  rwa [ByteArray.toList_eq, ByteArray.toList_eq] at e
def pv (l : List UInt8) : Int := (parseI l).getD 0
def pb (l : List UInt8) : Bool := (parseI l).isSome
theorem ret_par {l : List UInt8} (h : parseI l = none) : Ending.returned (.tuple #[.int .i64 0, .bool false]) = .returned (.tuple #[.int .i64 (pv l), .bool (pb l)]) := by rw [pv, pb, h]; rfl
theorem ret_par2 {l : List UInt8} {n : Int} (h : parseI l = some n) : Ending.returned (.tuple #[.int .i64 n, .bool true]) = .returned (.tuple #[.int .i64 (pv l), .bool (pb l)]) := by rw [pv, pb, h]; rfl
theorem mkS_is {l : List UInt8} {s : ByteArray} (h : l = s.data.toList) : mkS l = s := by rw [h, mkS_of]
theorem list_size (s : ByteArray) : s.data.toList.length = s.size := Array.length_toList
theorem drop_byte {s : ByteArray} {k : Nat} (h : k < s.size) : s.data.toList.drop k = s[k] :: s.data.toList.drop (k + 1) := by
  rw [List.drop_eq_getElem_cons (by rw [list_size]; exact h)]; rfl
theorem atoi_bad (s : ByteArray) (hlim : s.size ≤ 281474976710656) (h : ∀ v, atoiAll s.data.toList ≠ .ok v) (w : World) (he : Errs w) : Calls Tryz.prog 83 #[.string s] w fun e w' =>
    ∃ v t p, e = .returned (.tuple #[.int .i64 v, .iface t p]) ∧ Ext w w' := by
  obtain ⟨_, ⟨t1, p1, h1⟩, ⟨t2, p2, h2⟩⟩ := he
  cases hc : atoiAll s.data.toList with
  | ok v => exact absurd hc (h v)
  | range =>
    exact (Any.strconv_Atoi_range_var Tryz.laysC172 s hlim hc t2 p2 w h2).mono fun e w' ⟨N, he, _, _, hb⟩ => ⟨_, _, _, he, ⟨hb⟩⟩
  | _ =>
    exact (Any.strconv_Atoi_syntax_var Tryz.laysC172 s hlim hc t1 p1 w h1).mono fun e w' ⟨N, he, _, _, hb⟩ => ⟨_, _, _, he, ⟨hb⟩⟩
theorem atoi_good (s : ByteArray) (hlim : s.size ≤ 281474976710656) (v : Int) (h : atoiAll s.data.toList = .ok v) (w : World) : Calls Tryz.prog 83 #[.string s] w fun e w' =>
    e = .returned (.tuple #[.int .i64 v, .nilIface]) ∧ Ext w w' :=
  (Tryz.strconv_Atoi_ok s (by omega) v h w).mono fun e w' ⟨he, hw⟩ => ⟨he, by
    rcases hw with rfl | ⟨t, rfl⟩
    · exact Ext.refl _
    · exact ⟨Joins.below_bytesWorld _ w _ t (Nat.le_refl _)⟩⟩
set_option maxRecDepth 100000 in
theorem parseInt_impl (s : ByteArray) (hlim : s.size ≤ 1099511627776) (w : World) (he : Errs w) : Calls Tryz.prog 54 #[.string s] w fun e w' =>
 e = .returned (.tuple #[.int .i64 (pv s.data.toList), .bool (pb s.data.toList)]) ∧ Ext w w' := by
 by_cases hok : ∃ v, atoiAll s.data.toList = .ok v
 · obtain ⟨v, hv⟩ := hok
   obtain ⟨v0, v1⟩ := atoiAll_bounds hv
   by_cases hi : itoa v = s.data.toList
   · have hp : parseI s.data.toList = some v := by rw [parseI, hv]; simp only; rw [if_pos hi]
     have hz : (⟨(itoa v).toArray⟩ : ByteArray) = s := mkS_is hi
     have HP := Lib.hid hp; have HV := Lib.hid hv
     clear hp hv hi
     go_enter Tryz.func54, Tryz.ntmps54
     go_wp2_with fail
     refine (atoi_good s (by omega) v HV.out _).mono ?_; rintro e1 w1 ⟨rfl, h1⟩
     go_wp2_with fail
     refine (Tryz.strconv_Itoa v v0 v1 _ (he.ext h1).tab.tab).mono ?_; rintro e2 w2 ⟨rfl, k, os, rfl⟩; rw [hz]
     go_wp2
     go_ret2
     exact ⟨ret_par2 HP.out, h1.trans (grow_ext _ _ _)⟩
   · have hp : parseI s.data.toList = none := by rw [parseI, hv]; simp only; rw [if_neg hi]
     obtain ⟨z, hz⟩ : ∃ z, (⟨(itoa v).toArray⟩ : ByteArray) = z := ⟨_, rfl⟩
     have hzs : (z.toList == s.toList) = false := str_beq_no (by rw [← hz]; exact hi)
     have HP := Lib.hid hp; have HV := Lib.hid hv
     clear hp hv hi
     go_enter Tryz.func54, Tryz.ntmps54
     go_wp2_with fail
     refine (atoi_good s (by omega) v HV.out _).mono ?_; rintro e1 w1 ⟨rfl, h1⟩
     go_wp2_with fail
     refine (Tryz.strconv_Itoa v v0 v1 _ (he.ext h1).tab.tab).mono ?_; rintro e2 w2 ⟨rfl, k, os, rfl⟩; rw [hz]
     have HZ := Lib.hid hz; clear hz
     go_wp2
     go_ret2
     exact ⟨ret_par HP.out, h1.trans (grow_ext _ _ _)⟩
 · have hno : ∀ v, atoiAll s.data.toList ≠ .ok v := fun v e => hok ⟨v, e⟩
   have hp : parseI s.data.toList = none := by
    rw [parseI]
    cases hc : atoiAll s.data.toList with
    | ok v => exact absurd hc (hno v)
    | _ => rfl
   have HP := Lib.hid hp; have HN := Lib.hid hno
   clear hp hno hok
   go_enter Tryz.func54, Tryz.ntmps54
   go_wp2_with fail
   refine (atoi_bad s (by omega) HN.out _ he).mono ?_; rintro e1 w1 ⟨v, t, p, rfl, h1⟩
   go_wp2
   go_ret2
   exact ⟨ret_par HP.out, h1⟩
theorem magL_no {l : List UInt8} (h : signB l = false) : magL l = l := by simp [magL, h]
theorem magL_yes {l : List UInt8} (h : signB l = true) : magL l = l.tail := by simp [magL, h]
set_option maxRecDepth 100000 in
set_option maxHeartbeats 4000000 in
theorem parseInt_spec (s : ByteArray) (hlim : s.size ≤ 1099511627776) (w : World) : Calls Tryz.prog 36 #[.string s] w fun e w' =>
 e = .returned (.tuple #[.int .i64 (pv s.data.toList), .bool (pb s.data.toList)]) ∧ Ext w w' := by
 have hsz : s.data.toList.length = s.size := list_size s
 by_cases h0 : s.size = 0
 · have hl : s.data.toList = [] := List.eq_nil_of_length_eq_zero (by omega)
   have RES : Hid (parseI s.data.toList = none) := Lib.hid (by rw [hl]; rfl)
   clear hl hsz
   go_enter Tryz.func36, Tryz.ntmps36
   go_wp2
   go_ret2
   exact ⟨ret_par RES.out, Ext.refl _⟩
 have hp : 0 < s.size := by omega
 have hl : s.data.toList = s[0] :: s.data.toList.drop 1 := by have := drop_byte (k := 0) hp; simpa using this
 by_cases hneg : s[0] = 45
 · have hsg : signB s.data.toList = true := by rw [hl, hneg]; rfl
   have hm := magL_yes hsg
   have hb : (((s[0]).toNat : Int) == 45) = true := by rw [hneg]; rfl
   obtain ⟨t, ht⟩ : ∃ t : ByteArray, s.extract 1 s.size = t := ⟨_, rfl⟩
   have htl : t.data.toList = s.data.toList.tail := by rw [← ht, Go.Lib.extract_to_end]; simp
   have hts : t.size + 1 = s.size := by
    have e : t.data.toList.length = t.size := list_size t
    rw [← e, htl, List.length_tail, hsz]; omega
   have RES0 : parseI s.data.toList = if t.size < 1 ∨ 19 < t.size then none else (digGo 0 t.data.toList).bind fun n => sparseN (signB s.data.toList) n s.data.toList := by
    have e : (magL s.data.toList).length = t.size := by rw [hm, ← htl, list_size]
    rw [← sparse_eq, sparse, e, hm, ← htl]
   have SIG := Lib.hid hsg
   clear hm hl hneg hsg hsz htl
   by_cases hlen : t.size < 1 ∨ 19 < t.size
   · have RES : Hid (parseI s.data.toList = none) := Lib.hid (by rw [RES0, if_pos hlen])
     clear RES0
     rcases hlen with h | h
     · go_enter Tryz.func36, Tryz.ntmps36
       go_wp2
       go_ret2
       exact ⟨ret_par RES.out, Ext.refl _⟩
     · go_enter Tryz.func36, Tryz.ntmps36
       go_wp2
       go_ret2
       exact ⟨ret_par RES.out, Ext.refl _⟩
   have RES : Hid (parseI s.data.toList = (digGo 0 t.data.toList).bind fun n => sparseN (signB s.data.toList) n s.data.toList) := Lib.hid (by rw [RES0, if_neg hlen])
   have hl1 : 1 ≤ t.size := by omega
   have hl2 : t.size ≤ 19 := by omega
   clear RES0 hlen
   go_enter Tryz.func36, Tryz.ntmps36
   go_wp2_with fail
   go_loop [6, 7] (fun q i => ∃ (k : Nat) (n : Int), k ≤ t.size ∧ i = .int .i64 k ∧ q = .int .i64 n ∧ -9223372036854775808 ≤ n ∧ n ≤ 0 ∧ digGo n (t.data.toList.drop k) = digGo 0 t.data.toList) (fun _ i => t.size - (RowKit.intOf i).toNat)
   case atStart => exact ⟨0, 0, Nat.zero_le _, rfl, rfl, by omega, by omega, rfl⟩
   case round =>
    obtain ⟨k, n, hk, rfl, rfl, hn0, hn1, hg⟩ := hrel
    by_cases hlt : k < t.size
    · rw [drop_byte hlt, digGo] at hg
      obtain ⟨q, hq⟩ : ∃ q : Int, Int.tdiv (-9223372036854775808 + ((t[k].toNat : Int) - 48)) 10 = q := ⟨_, rfl⟩
      rw [hq] at hg
      have hcb := t[k].toNat_lt
      by_cases hd : t[k].toNat < 48 ∨ 57 < t[k].toNat
      · rw [if_pos hd] at hg
        have hin : (decide (0 ≤ (t[k].toNat : Int) - 48) && decide ((t[k].toNat : Int) - 48 ≤ 9)) = false := by
         rcases hd with h | h
         · rw [show decide (0 ≤ (t[k].toNat : Int) - 48) = false by simp; omega]; rfl
         · rw [show decide ((t[k].toNat : Int) - 48 ≤ 9) = false by simp; omega]; simp
        have HG := Lib.hid hg; have HIN := Lib.hid hin
        clear hg hq hd hin
        go_wp2_with (go_at_call 70; refine (in_any _ _ _ _).mono ?_; rintro e w' ⟨rfl, rfl⟩; rw [HIN.out])
        go_ret2
        exact ⟨ret_par (by rw [RES.out, ← HG.out]; rfl), Ext.refl _⟩
      · rw [if_neg hd] at hg
        have hin : (decide (0 ≤ (t[k].toNat : Int) - 48) && decide ((t[k].toNat : Int) - 48 ≤ 9)) = true := by simp; omega
        have HIN := Lib.hid hin; clear hin
        have hq1 := hq
        rw [tdiv_low (by omega) (by omega)] at hq1
        have hd0 : 48 ≤ (t[k].toNat : Int) := by omega
        have hd1 : (t[k].toNat : Int) ≤ 57 := by omega
        have hq2 : -922337203685477581 ≤ q := by omega
        have hq3 : q ≤ 0 := by omega
        by_cases hb : n < q
        · rw [if_pos hb] at hg
          have HG := Lib.hid hg
          clear hg hd hq1
          go_wp2_with (go_at_call 70; refine (in_any _ _ _ _).mono ?_; rintro e w' ⟨rfl, rfl⟩; rw [HIN.out])
          go_ret2
          exact ⟨ret_par (by rw [RES.out, ← HG.out]; rfl), Ext.refl _⟩
        · rw [if_neg hb] at hg
          have HG := Lib.hid hg
          have hm : -9223372036854775808 ≤ n * 10 - ((t[k].toNat : Int) - 48) := by omega
          clear hg hd hq1
          go_wp2_with (go_at_call 70; refine (in_any _ _ _ _).mono ?_; rintro e w' ⟨rfl, rfl⟩; rw [HIN.out])
          go_round
          case rel => exact ⟨k + 1, _, by omega, by go_num, rfl, by omega, by omega, HG.out⟩
          case measure => simp [RowKit.intOf]; omega
    · have : k = t.size := by omega
      subst this
      rw [show t.data.toList.drop t.size = [] by rw [List.drop_eq_nil_iff, list_size]; exact Nat.le_refl _, digGo] at hg
      have HG := Lib.hid hg
      clear hg
      have hn : isI64 n := ⟨hn0, by omega⟩
      by_cases he : itoa n = s.data.toList
      · have hz := mkS_is he
        go_wp2_with fail
        refine (formatInt_spec n hn _).mono ?_; rintro e1 w1 ⟨rfl, h1⟩; rw [hz]
        go_wp2
        go_ret2
        exact ⟨ret_par2 (by rw [RES.out, ← HG.out, Option.bind_some, SIG.out, sparseN, if_pos rfl, finI, if_pos he]) , h1⟩
      · obtain ⟨z, hz⟩ : ∃ z, mkS (itoa n) = z := ⟨_, rfl⟩
        have hzs : (z.toList == s.toList) = false := str_beq_no (by rw [← hz, mkS_list]; exact he)
        go_wp2_with fail
        refine (formatInt_spec n hn _).mono ?_; rintro e1 w1 ⟨rfl, h1⟩; rw [hz]
        have HZ := Lib.hid hz; clear hz
        go_wp2
        go_ret2
        exact ⟨ret_par (by rw [RES.out, ← HG.out, Option.bind_some, SIG.out, sparseN, if_pos rfl, finI, if_neg he]), h1⟩
 · have hsg : signB s.data.toList = false := by rw [hl, signB]; simp [hneg]
   have hm := magL_no hsg
   have hb : (((s[0]).toNat : Int) == 45) = false := by
    rw [beq_eq_false_iff_ne]
    intro e
    apply hneg
    have e2 : s[0].toNat = 45 := by omega
    exact UInt8.toNat_inj.1 e2
   have RES0 : parseI s.data.toList = if s.size < 1 ∨ 19 < s.size then none else (digGo 0 s.data.toList).bind fun n => sparseN (signB s.data.toList) n s.data.toList := by
    rw [← sparse_eq, sparse, hm, hsz]
   have SIG := Lib.hid hsg
   clear hm hl hneg hsg hsz
   by_cases hlen : 19 < s.size
   · have RES : Hid (parseI s.data.toList = none) := Lib.hid (by rw [RES0, if_pos (Or.inr hlen)])
     clear RES0
     go_enter Tryz.func36, Tryz.ntmps36
     go_wp2
     go_ret2
     exact ⟨ret_par RES.out, Ext.refl _⟩
   have RES : Hid (parseI s.data.toList = (digGo 0 s.data.toList).bind fun n => sparseN (signB s.data.toList) n s.data.toList) := Lib.hid (by rw [RES0, if_neg (by omega)])
   have hl2 : s.size ≤ 19 := by omega
   clear RES0 hlen
   go_enter Tryz.func36, Tryz.ntmps36
   go_wp2_with fail
   go_loop [6, 7] (fun q i => ∃ (k : Nat) (n : Int), k ≤ s.size ∧ i = .int .i64 k ∧ q = .int .i64 n ∧ -9223372036854775808 ≤ n ∧ n ≤ 0 ∧ digGo n (s.data.toList.drop k) = digGo 0 s.data.toList) (fun _ i => s.size - (RowKit.intOf i).toNat)
   case atStart => exact ⟨0, 0, Nat.zero_le _, rfl, rfl, by omega, by omega, rfl⟩
   case round =>
    obtain ⟨k, n, hk, rfl, rfl, hn0, hn1, hg⟩ := hrel
    by_cases hlt : k < s.size
    · rw [drop_byte hlt, digGo] at hg
      obtain ⟨q, hq⟩ : ∃ q : Int, Int.tdiv (-9223372036854775808 + ((s[k].toNat : Int) - 48)) 10 = q := ⟨_, rfl⟩
      rw [hq] at hg
      have hcb := s[k].toNat_lt
      by_cases hd : s[k].toNat < 48 ∨ 57 < s[k].toNat
      · rw [if_pos hd] at hg
        have hin : (decide (0 ≤ (s[k].toNat : Int) - 48) && decide ((s[k].toNat : Int) - 48 ≤ 9)) = false := by
         rcases hd with h | h
         · rw [show decide (0 ≤ (s[k].toNat : Int) - 48) = false by simp; omega]; rfl
         · rw [show decide ((s[k].toNat : Int) - 48 ≤ 9) = false by simp; omega]; simp
        have HG := Lib.hid hg; have HIN := Lib.hid hin
        clear hg hq hd hin
        go_wp2_with (go_at_call 70; refine (in_any _ _ _ _).mono ?_; rintro e w' ⟨rfl, rfl⟩; rw [HIN.out])
        go_ret2
        exact ⟨ret_par (by rw [RES.out, ← HG.out]; rfl), Ext.refl _⟩
      · rw [if_neg hd] at hg
        have hin : (decide (0 ≤ (s[k].toNat : Int) - 48) && decide ((s[k].toNat : Int) - 48 ≤ 9)) = true := by simp; omega
        have HIN := Lib.hid hin; clear hin
        have hq1 := hq
        rw [tdiv_low (by omega) (by omega)] at hq1
        have hd0 : 48 ≤ (s[k].toNat : Int) := by omega
        have hd1 : (s[k].toNat : Int) ≤ 57 := by omega
        have hq2 : -922337203685477581 ≤ q := by omega
        have hq3 : q ≤ 0 := by omega
        by_cases hb : n < q
        · rw [if_pos hb] at hg
          have HG := Lib.hid hg
          clear hg hd hq1
          go_wp2_with (go_at_call 70; refine (in_any _ _ _ _).mono ?_; rintro e w' ⟨rfl, rfl⟩; rw [HIN.out])
          go_ret2
          exact ⟨ret_par (by rw [RES.out, ← HG.out]; rfl), Ext.refl _⟩
        · rw [if_neg hb] at hg
          have HG := Lib.hid hg
          have hm : -9223372036854775808 ≤ n * 10 - ((s[k].toNat : Int) - 48) := by omega
          clear hg hd hq1
          go_wp2_with (go_at_call 70; refine (in_any _ _ _ _).mono ?_; rintro e w' ⟨rfl, rfl⟩; rw [HIN.out])
          go_round
          case rel => exact ⟨k + 1, _, by omega, by go_num, rfl, by omega, by omega, HG.out⟩
          case measure => simp [RowKit.intOf]; omega
    · have : k = s.size := by omega
      subst this
      rw [show s.data.toList.drop s.size = [] by rw [List.drop_eq_nil_iff, list_size]; exact Nat.le_refl _, digGo] at hg
      have HG := Lib.hid hg
      clear hg
      by_cases hmin : n = -9223372036854775808
      · subst hmin
        go_wp2
        go_ret2
        exact ⟨ret_par (by rw [RES.out, ← HG.out, Option.bind_some, SIG.out, sparseN, if_neg (by simp), if_pos rfl]), Ext.refl _⟩
      have hmb : (n == -9223372036854775808) = false := by rw [beq_eq_false_iff_ne]; exact hmin
      have hn : isI64 (-n) := ⟨by omega, by omega⟩
      have hlow : -9223372036854775807 ≤ n := by omega
      by_cases he : itoa (-n) = s.data.toList
      · have hz := mkS_is he
        go_wp2_with fail
        refine (formatInt_spec (-n) hn _).mono ?_; rintro e1 w1 ⟨rfl, h1⟩; rw [hz]
        go_wp2
        go_ret2
        exact ⟨ret_par2 (by rw [RES.out, ← HG.out, Option.bind_some, SIG.out, sparseN, if_neg (by simp), if_neg hmin, finI, if_pos he]), h1⟩
      · obtain ⟨z, hz⟩ : ∃ z, mkS (itoa (-n)) = z := ⟨_, rfl⟩
        have hzs : (z.toList == s.toList) = false := str_beq_no (by rw [← hz, mkS_list]; exact he)
        go_wp2_with fail
        refine (formatInt_spec (-n) hn _).mono ?_; rintro e1 w1 ⟨rfl, h1⟩; rw [hz]
        have HZ := Lib.hid hz; clear hz
        go_wp2
        go_ret2
        exact ⟨ret_par (by rw [RES.out, ← HG.out, Option.bind_some, SIG.out, sparseN, if_neg (by simp), if_neg hmin, finI, if_neg he]), h1⟩
end Go.Proofs.YtlgjddgajdjllaaGreatDoor
