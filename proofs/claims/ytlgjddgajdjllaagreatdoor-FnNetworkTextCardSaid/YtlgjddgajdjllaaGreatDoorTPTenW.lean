/- ParseTensor of the program. -/
import Derived.Test.YtlgjddgajdjllaaGreatDoorTTenTx
import Derived.Test.YtlgjddgajdjllaaGreatDoorTPRingW
set_option linter.unusedSimpArgs false
set_option linter.unusedVariables false
namespace Go.Proofs.YtlgjddgajdjllaaGreatDoor
open Go.RowKit
open Go.Lib
theorem axP_eq (ts : List (List UInt8)) : axP ([61] :: ts) = some ([], [], ts) := by rw [axP, if_pos rfl]
theorem axP_bad {x : List UInt8} {ts : List (List UInt8)} (h : x ≠ [61]) (hi : intsBy 58 x = none) : axP (x :: ts) = none := by rw [axP, if_neg h, hi]
theorem axP_len {x : List UInt8} {ts : List (List UInt8)} {xs : List Int} (h : x ≠ [61]) (hi : intsBy 58 x = some xs) (hl : xs.length ≠ 2) : axP (x :: ts) = none := by
  rw [axP, if_neg h, hi]
  match xs, hl with
  | [], _ => rfl
  | [a], _ => rfl
  | a :: b :: c :: r, _ => rfl
theorem axP_two {x : List UInt8} {ts : List (List UInt8)} {a b : Int} (h : x ≠ [61]) (hi : intsBy 58 x = some [a, b]) : axP (x :: ts) = (axP ts).map fun q => (a :: q.1, b :: q.2.1, q.2.2) := by rw [axP, if_neg h, hi]
structure AxSt (ps : List (List UInt8)) (L D : List Int) (rest : List (List UInt8)) : Prop where
  eq : axP ps = (axP rest).map fun q => (L ++ q.1, D ++ q.2.1, q.2.2)
  len : L.length + rest.length = ps.length ∧ D.length = L.length
theorem AxSt.start (ps : List (List UInt8)) : AxSt ps [] [] ps := ⟨by cases axP ps <;> simp, by simp⟩
theorem AxSt.none {ps rest : List (List UInt8)} {L D : List Int} (h : AxSt ps L D rest) (hr : axP rest = .none) : axP ps = .none := by rw [h.eq, hr]; rfl
theorem AxSt.fin {ps ts : List (List UInt8)} {L D : List Int} (h : AxSt ps L D ([61] :: ts)) : axP ps = some (L, D, ts) := by rw [h.eq, axP_eq]; simp
theorem AxSt.step {ps ts : List (List UInt8)} {L D : List Int} {x : List UInt8} {a b : Int} (h : AxSt ps L D (x :: ts)) (hx : x ≠ [61]) (hi : intsBy 58 x = some [a, b]) : AxSt ps (L ++ [a]) (D ++ [b]) ts := by
  refine ⟨?_, ?_⟩
  · rw [h.eq, axP_two hx hi]
    cases axP ts <;> simp
  · have := h.len; simp at this ⊢; omega
theorem pT_none {k p n : Int} {ts : List (List UInt8)} (h : axP ts = none) : pT k p n ts = none := by rw [pT, h]; rfl
theorem pT_bad {k p n : Int} {ts r : List (List UInt8)} {L D : List Int} (h : axP ts = some (L, D, r)) (hr : r.mapM (peO k p n) = none) : pT k p n ts = none := by rw [pT, h, Option.bind_some, hr]; rfl
theorem pT_some {k p n : Int} {ts r : List (List UInt8)} {L D : List Int} {xs : List (List Int)} (h : axP ts = some (L, D, r)) (hr : r.mapM (peO k p n) = some xs) : pT k p n ts = some (L, D, xs.flatten) := by rw [pT, h, Option.bind_some, hr]; rfl
def Left0 (ps rest : List (List UInt8)) (o : Nat) : Prop := ∀ (i : Nat) (x : List UInt8), rest[i]? = some x → (strs (mkSs ps))[o + i]? = some (.string (mkS x))
theorem Left0.start (ps : List (List UInt8)) : Left0 ps ps 0 := fun i x h => by rw [Nat.zero_add, strs_get, mkSs_get, h]; rfl
theorem Left0.tail {ps rs : List (List UInt8)} {x : List UInt8} {o : Nat} (h : Left0 ps (x :: rs) o) : Left0 ps rs (o + 1) := fun i y hy => by
  have := h (i + 1) y (by simpa using hy)
  rw [Nat.add_assoc, Nat.add_comm 1 i]; exact this
theorem Left0.mem {ps rest : List (List UInt8)} {o i : Nat} {x : List UInt8} (h : Left0 ps rest o) (hx : rest[i]? = some x) : x ∈ ps := by
  have := h i x hx
  rw [strs_get, mkSs_get] at this
  cases hp : ps[o + i]? with
  | none => rw [hp] at this; simp at this
  | some y =>
    rw [hp] at this
    have e : mkS y = mkS x := by simpa using this
    have e2 := congrArg (fun b : ByteArray => b.data.toList) e
    simp only [mkS_list] at e2
    rw [← e2]; exact List.mem_of_getElem? hp
structure TenR (k p n : Int) (s : List UInt8) (w w' : World) (e : Ending) : Prop where
  out : ∃ v L D X b, e = .returned (.tuple #[v, .bool b]) ∧ TP k p n s L D X b ∧ OwnT w' w.heap.size v L D X ∧ Ext w w'
def leftOf : Value → Nat
  | .slice _ n _ => n
  | _ => 0
theorem flat_len {k p n : Int} : ∀ {ts : List (List UInt8)} {xs : List (List Int)}, ts.mapM (peO k p n) = some xs → xs.flatten.length ≤ ts.length * 6
  | [], xs, h => by
    rw [List.mapM_nil] at h
    have : xs = [] := by simpa using h.symm
    simp [this]
  | t :: ts, xs, h => by
    rw [List.mapM_cons] at h
    cases h1 : peO k p n t with
    | none => rw [h1] at h; cases h
    | some x =>
      rw [h1] at h
      cases h2 : ts.mapM (peO k p n) with
      | none => rw [h2] at h; cases h
      | some ys =>
        rw [h2] at h
        have e : xs = x :: ys := (Option.some.inj h).symm
        have h3 := flat_len h2
        have h4 : x.length ≤ 6 := by
          have : pev k p n t = x := by rw [pev, h1]; rfl
          rw [← this]; exact pe_len
        rw [e, List.flatten_cons, List.length_append, List.length_cons, Nat.add_mul]
        omega
set_option maxRecDepth 100000 in
set_option maxHeartbeats 8000000 in
theorem parseTensor_impl (k p n : Int) (s : ByteArray) (w : World) (hs : s.size ≤ 1073741824) (hT : AllV w) : Calls Tryz.prog 22 #[ringV k p n, .string s] w fun e w' => TenR k p n s.data.toList w w' e := by
  cases hr : ringOk k p n
  · have HZ := Lib.hid (TP.ring (s := s.data.toList) hr)
    have HR := Lib.hid hr
    clear hr
    go_enter Tryz.func22, Tryz.ntmps22
    go_wp2_with fail
    refine (ringOk_impl _ _ _ _).mono ?_; rintro e1 w1 ⟨rfl, h1⟩; rw [HR.out]; have s1 := h1.size; (try simp at s1); have t1_0 : w.heap.size < w1.heap.size := (by omega); have c1_0 := fun o => h1.cells (w.heap.size) o (by first | (simp; done) | (simp; omega) | omega); have t1_1 : w.heap.size + 1 < w1.heap.size := (by omega); have c1_1 := fun o => h1.cells (w.heap.size + 1) o (by first | (simp; done) | (simp; omega) | omega); have f1_0 := fun o => h1.frozens (w.heap.size) o (by first | (simp; done) | (simp; omega) | omega); have f1_1 := fun o => h1.frozens (w.heap.size + 1) o (by first | (simp; done) | (simp; omega) | omega)
    go_wp2
    refine bodyPost_ret (v := .tuple #[.agg #[.slice none 0 0, .slice none 0 0, .slice none 0 0], .bool false]) (by simp [results, Tryz.results22, go_sem, *]) rfl ?_
    exact ⟨⟨_, [], [], [], false, rfl, HZ.out, OwnT.empty _ _, (by repeat' (first | (with_reducible first | exact Ext.refl _ | assumption | apply Ext.alloc | apply Ext.drew | apply Ext.drewN) | (refine Ext.setAt ?_ (by omega) _ _) | (refine Ext.trans ?_ (by assumption))))⟩⟩
  obtain ⟨ps, hps⟩ : ∃ ps, sp 32 s.data.toList = ps := ⟨_, rfl⟩
  have hpl : ∀ q ∈ ps, q.length ≤ s.size := fun q hq => by rw [← hps] at hq; have := sp_piece_le hq; rwa [slen] at this
  have hle := sp_le 32 s
  rw [hps] at hle
  have A : ∀ w, Maxl w → Calls Tryz.prog 53 #[.string s, .string ⟨#[32]⟩] w fun e w' => e = .returned (.slice (some ⟨w.heap.size, 0, none⟩) ps.length ps.length) ∧ Blk w' w.heap.size 9 (strs (mkSs ps)) ∧ Ext w w' := fun w hM => by
    have := split_any s 32 w hs hM
    rwa [hps] at this
  have HBAD : Hid (pT k p n ps = none → TP k p n s.data.toList [] [] [] false) := Lib.hid fun h => TP.bad (by rw [hps]; exact h)
  have HNO : Hid (∀ L D X, pT k p n ps = some (L, D, X) → (tensOk k p n L D X = true → fmtTen k p n L D X ≠ s.data.toList) → TP k p n s.data.toList [] [] [] false) := Lib.hid fun L D X h => TP.no (by rw [hps]; exact h)
  have HA := Lib.hid A; have HPL := Lib.hid hpl; have HR := Lib.hid hr
  clear A hpl hps hr
  go_enter Tryz.func22, Tryz.ntmps22
  go_wp2_with fail
  refine (ringOk_impl _ _ _ _).mono ?_; rintro e1 w1 ⟨rfl, h1⟩; rw [HR.out]
  have E1 : Ext w w1 := (by repeat' (first | (with_reducible first | exact Ext.refl _ | assumption | apply Ext.alloc | apply Ext.drew | apply Ext.drewN) | (refine Ext.setAt ?_ (by omega) _ _) | (refine Ext.trans ?_ (by assumption))))
  have BK1 : Blk w1 w.heap.size 24 [.int .i64 k, .int .i64 p, .int .i64 n] := Blk.ext (w' := w1) (Blk.new w #[.int .i64 k, .int .i64 p, .int .i64 n] 24) (Ext.trans ((Ext.refl _).alloc _) h1)
  have BR1 : Blk w1 (w.heap.size + 1) 52 [.slice none 0 0, .slice none 0 0, .slice none 0 0] := by
    have := (Blk.new (w.alloc (.cells #[.int .i64 k, .int .i64 p, .int .i64 n] 24)) #[.slice none 0 0, .slice none 0 0, .slice none 0 0] 52).ext h1
    simpa using this
  have hbr := BR1.lt
  clear h1
  go_wp2_with fail
  refine (HA.out _ (hT.maxl.ext (by repeat' (first | (with_reducible first | exact Ext.refl _ | assumption | apply Ext.alloc | apply Ext.drew | apply Ext.drewN) | (refine Ext.setAt ?_ (by omega) _ _) | (refine Ext.trans ?_ (by assumption)))))).mono ?_; rintro e2 w2 ⟨rfl, hB, h2⟩
  have E2 : Ext w1 w2 := (by repeat' (first | (with_reducible first | exact Ext.refl _ | assumption | apply Ext.alloc | apply Ext.drew | apply Ext.drewN) | (refine Ext.setAt ?_ (by omega) _ _) | (refine Ext.trans ?_ (by assumption))))
  have hB2 : Blk w2 (w1.heap.size + 1) 9 (strs (mkSs ps)) := by simpa using hB
  have BT2 : Blk w2 w1.heap.size 52 [.slice none 0 0, .slice none 0 0, .slice none 0 0] := (Blk.new w1 #[.slice none 0 0, .slice none 0 0, .slice none 0 0] 52).ext h2
  clear hB h2
  (try simp only [alloc_size])
  go_wp2_with fail
  go_loopw [7] (fun q wr => ∃ (rest : List (List UInt8)) (o : Nat) (L D : List Int) (vL vD : Value), q = .slice (some ⟨w1.heap.size + 1, o, none⟩) rest.length rest.length ∧ Hid (Left0 ps rest o) ∧ Hid (AxSt ps L D rest) ∧ OwnI wr (w1.heap.size + 2) vL L ∧ OwnI wr (w1.heap.size + 2) vD D ∧ Hid (∀ z, vL.ownBlock = some z → vD.ownBlock ≠ some z) ∧
      Blk wr w1.heap.size 52 [vL, vD, .slice none 0 0] ∧ Blk wr (w1.heap.size + 1) 9 (strs (mkSs ps)) ∧ Ext w1 wr) (fun q _ => leftOf q)
  case atStart => exact ⟨ps, 0, [], [], _, _, rfl, Lib.hid (Left0.start ps), Lib.hid (AxSt.start ps), OwnI.nil _ _, OwnI.nil _ _, Lib.hid (by simp [Value.ownBlock]), BT2, hB2, E2⟩
  case round =>
    clear E2 BT2 hB2
    obtain ⟨rest, o, L, D, vL, vD, rfl, HG, HX, hL, hD, HLD, hT3, hB3, hE⟩ := hrel
    have BK3 := BK1.ext hE
    have BR3 := BR1.ext hE
    have hs3 := hE.size
    have EW : Ext w wr := E1.trans hE
    have hlT := hT3.lt
    have hlB := hB3.lt
    obtain ⟨aL, cL, hvL, hL1, hL2⟩ := hL.ints.val
    subst hvL
    obtain ⟨aD, cD, hvD, hD1, hD2⟩ := hD.ints.val
    subst hvD
    rcases rest with _ | ⟨x, rs⟩
    · have HIN := Lib.hid (HBAD.out (pT_none (HX.out.none rfl)))
      have f0 := BR3.free 0; have f1 := BR3.free 1; have f2 := BR3.free 2
      have r0 := BR3.cell (j := 0) rfl; have r1 := BR3.cell (j := 1) rfl; have r2 := BR3.cell (j := 2) rfl
      have hRl := BR3.lt
      go_wp2
      refine bodyPost_ret (v := .tuple #[.agg #[.slice none 0 0, .slice none 0 0, .slice none 0 0], .bool false]) (by simp [results, Tryz.results22, go_sem, *]) rfl ?_
      exact ⟨⟨_, [], [], [], false, rfl, HIN.out, OwnT.empty _ _, (by repeat' (first | (with_reducible first | exact Ext.refl _ | assumption | apply Ext.alloc | apply Ext.drew | apply Ext.drewN) | (refine Ext.setAt ?_ (by omega) _ _) | (refine Ext.trans ?_ (by assumption))))⟩⟩
    obtain ⟨z, hz⟩ : ∃ z, mkS x = z := ⟨_, rfl⟩
    have HZ : Hid (z.data.toList = x) := Lib.hid (by rw [← hz, mkS_list])
    have hcell := hB3.cell (j := o) (u := .string z) (by have := HG.out 0 x rfl; rw [← hz]; simpa using this)
    have hzs : z.size ≤ 1073741824 := by
      have := HPL.out x (HG.out.mem (i := 0) rfl)
      rw [← hz, mkS_size]; omega
    clear hz
    by_cases hx : x = [61]
    · have hq : (z.toList == ([61] : List UInt8)) = true := by rw [beq_iff_eq, ByteArray.toList_eq, HZ.out]; exact hx
      have hqn : (z.toList != ([61] : List UInt8)) = false := by rw [bne, hq]; rfl
      have HAX := Lib.hid (AxSt.fin (by rw [← hx]; exact HX.out))
      have HGT := Lib.hid HG.out.tail
      clear hx
      obtain ⟨rl, hrl⟩ : ∃ rl, rs.length = rl := ⟨_, rfl⟩
      have HRL := Lib.hid hrl
      rw [List.length_cons, hrl]
      clear hrl
      have hrlb : rl ≤ s.size + 1 := by have h2 := HX.out.len.1; rw [List.length_cons, HRL.out] at h2; omega
      obtain ⟨wq, hwq⟩ : ∃ u, u = wr := ⟨_, rfl⟩
      subst hwq
      go_wp2_with fail
      · go_loopw [70] (fun i wr => ∃ (j : Nat) (xs : List (List Int)) (vX : Value), j ≤ rl ∧ i = .int .i64 j ∧ Hid ((rs.take j).mapM (peO k p n) = some xs) ∧ OwnI wr (w1.heap.size + 2) vX xs.flatten ∧ OwnI wr (w1.heap.size + 2) (.slice aL L.length cL) L ∧ OwnI wr (w1.heap.size + 2) (.slice aD D.length cD) D ∧
            Hid (∀ z, vX.ownBlock = some z → (Value.slice aL L.length cL).ownBlock ≠ some z ∧ (Value.slice aD D.length cD).ownBlock ≠ some z) ∧ Blk wr w1.heap.size 52 [.slice aL L.length cL, .slice aD D.length cD, vX] ∧ Blk wr (w1.heap.size + 1) 9 (strs (mkSs ps)) ∧ Ext w1 wr) (fun i _ => rl - (RowKit.intOf i).toNat)
        case atStart => exact ⟨0, [], _, Nat.zero_le _, rfl, Lib.hid rfl, OwnI.nil _ _, hL, hD, Lib.hid (by simp [Value.ownBlock]), hT3, hB3, hE⟩
        case round =>
          clear hT3 hB3 hcell BK3 BR3 hs3 hlT hlB
          obtain ⟨j, xs, vX, hj, rfl, HM, hXo, hLo, hDo, HDX, hT4, hB4, hE4⟩ := hrel
          have BK4 := BK1.ext hE4
          have BR4 := BR1.ext hE4
          have hs4 := hE4.size
          have EW4 : Ext w wr := E1.trans hE4
          have hlT := hT4.lt
          have hlB := hB4.lt
          obtain ⟨X, hXX⟩ : ∃ X, xs.flatten = X := ⟨_, rfl⟩
          rw [hXX] at hXo
          have HXX := Lib.hid hXX
          clear hXX
          obtain ⟨aX, cX, hvX, hX3, hX4⟩ := hXo.ints.val
          subst hvX
          by_cases hlt : j < rl
          · exfalso; omega
          · have : j = rl := by omega
            subst this
            have hmm : rs.mapM (peO k p n) = some xs := by
              have := HM.out
              rwa [List.take_of_length_le (by rw [HRL.out]; exact Nat.le_refl _)] at this
            have hpt := pT_some HAX.out hmm
            rw [HXX.out] at hpt
            have HPT := Lib.hid hpt
            clear hpt hmm
            have k0 := BK4.cell (j := 0) rfl; have k1 := BK4.cell (j := 1) rfl; have k2 := BK4.cell (j := 2) rfl
            have t0 := hT4.cell (j := 0) rfl; have t1 := hT4.cell (j := 1) rfl; have t2 := hT4.cell (j := 2) rfl
            have hKl := BK4.lt
            have hTS : TenS wr (.agg #[.slice aL L.length cL, .slice aD D.length cD, .slice aX X.length cX]) L D X := ⟨_, _, _, rfl, hLo.ints, hDo.ints, hXo.ints⟩
            go_wp2_with fail
            refine (tensorOk_impl k p n _ L D X _ hTS).mono ?_; rintro e7 w7 ⟨rfl, h7⟩
            have BK7 := BK4.ext h7; have BR7 := BR4.ext h7; have hT7 := hT4.ext h7
            clear k0 k1 k2 t0 t1 t2
            cases htk : tensOk k p n L D X
            · have HIN := Lib.hid (HNO.out L D X HPT.out (fun h => by rw [h] at htk; cases htk))
              clear htk
              have f0 := BR7.free 0; have f1 := BR7.free 1; have f2 := BR7.free 2
              have r0 := BR7.cell (j := 0) rfl; have r1 := BR7.cell (j := 1) rfl; have r2 := BR7.cell (j := 2) rfl
              have hRl := BR7.lt
              go_wp2
              refine bodyPost_ret (v := .tuple #[.agg #[.slice none 0 0, .slice none 0 0, .slice none 0 0], .bool false]) (by simp [results, Tryz.results22, go_sem, *]) rfl ?_
              exact ⟨⟨_, [], [], [], false, rfl, HIN.out, OwnT.empty _ _, (by repeat' (first | (with_reducible first | exact Ext.refl _ | assumption | apply Ext.alloc | apply Ext.drew | apply Ext.drewN) | (refine Ext.setAt ?_ (by omega) _ _) | (refine Ext.trans ?_ (by assumption))))⟩⟩
            have HTK := Lib.hid htk
            clear htk
            have k0 := BK7.cell (j := 0) rfl; have k1 := BK7.cell (j := 1) rfl; have k2 := BK7.cell (j := 2) rfl
            have t0 := hT7.cell (j := 0) rfl; have t1 := hT7.cell (j := 1) rfl; have t2 := hT7.cell (j := 2) rfl
            have T7 : Tab w7 := hT.errs.tab.ext (EW4.trans h7)
            obtain ⟨y, hy⟩ : ∃ y, mkS (fmtTen k p n L D X) = y := ⟨_, rfl⟩
            have HY : Hid (y.data.toList = fmtTen k p n L D X) := Lib.hid (by rw [← hy, mkS_list])
            have HFT : Hid (∀ w, Tab w → TenS w (.agg #[.slice aL L.length cL, .slice aD D.length cD, .slice aX X.length cX]) L D X → Calls Tryz.prog 25 #[ringV k p n, .agg #[.slice aL L.length cL, .slice aD D.length cD, .slice aX X.length cX]] w fun e w' => e = .returned (.string y) ∧ Ext w w') := Lib.hid fun w ht hs => hy ▸ formatTensor_impl k p n _ L D X w hs ht
            have hKl7 := BK7.lt
            have hTl7 := hT7.lt
            clear hy
            by_cases hf : fmtTen k p n L D X = s.data.toList
            · have HIN := Lib.hid (TP.yes HTK.out hf)
              have hq2 := bytes_beq y s (by rw [HY.out, hf])
              have hqn2 : (y.toList != s.toList) = false := by rw [bne, hq2]; rfl
              clear hf
              go_wp2_with fail
              refine (HFT.out _ T7 (hTS.ext h7)).mono ?_; rintro e8 w8 ⟨rfl, h8⟩
              have BR8 := BR7.ext h8
              have hT8 := hT7.ext h8
              have f0 := BR8.free 0; have f1 := BR8.free 1; have f2 := BR8.free 2
              have r0 := BR8.cell (j := 0) rfl; have r1 := BR8.cell (j := 1) rfl; have r2 := BR8.cell (j := 2) rfl
              have s0 := hT8.cell (j := 0) rfl; have s1 := hT8.cell (j := 1) rfl; have s2 := hT8.cell (j := 2) rfl
              have hRl := BR8.lt
              have E8 : Ext wr w8 := h7.trans h8
              have hlow : w.heap.size + 1 < w1.heap.size + 2 := by omega
              have hne1 : ¬ w1.heap.size = w.heap.size + 1 := by omega
              go_wp2
              refine bodyPost_ret (v := .tuple #[.agg #[.slice aL L.length cL, .slice aD D.length cD, .slice aX X.length cX], .bool true]) (by simp [results, Tryz.results22, go_sem, *]) rfl ?_
              refine ⟨⟨_, L, D, X, true, rfl, HIN.out, ⟨_, _, _, rfl, ?_, ?_, ?_, fun q hq => ⟨fun e => HLD.out q hq e, fun e => (HDX.out q e).1 hq⟩, fun q hq e => (HDX.out q e).2 hq⟩, (by repeat' (first | (with_reducible first | exact Ext.refl _ | assumption | apply Ext.alloc | apply Ext.drew | apply Ext.drewN) | (refine Ext.setAt ?_ (by omega) _ _) | (refine Ext.trans ?_ (by assumption))))⟩⟩
              · exact ((((hLo.ext E8).setBelow hlow _).setBelow hlow _).setBelow hlow _).mono (by omega)
              · exact ((((hDo.ext E8).setBelow hlow _).setBelow hlow _).setBelow hlow _).mono (by omega)
              · exact ((((hXo.ext E8).setBelow hlow _).setBelow hlow _).setBelow hlow _).mono (by omega)
            · have HIN := Lib.hid (HNO.out L D X HPT.out (fun _ => hf))
              have hq2 := str_beq_no (z := y) (s := s) (by rw [HY.out]; exact hf)
              have hqn2 : (y.toList != s.toList) = true := by rw [bne, hq2]; rfl
              clear hf
              go_wp2_with fail
              refine (HFT.out _ T7 (hTS.ext h7)).mono ?_; rintro e8 w8 ⟨rfl, h8⟩
              have BR8 := BR7.ext h8
              have f0 := BR8.free 0; have f1 := BR8.free 1; have f2 := BR8.free 2
              have r0 := BR8.cell (j := 0) rfl; have r1 := BR8.cell (j := 1) rfl; have r2 := BR8.cell (j := 2) rfl
              have hRl := BR8.lt
              go_wp2
              refine bodyPost_ret (v := .tuple #[.agg #[.slice none 0 0, .slice none 0 0, .slice none 0 0], .bool false]) (by simp [results, Tryz.results22, go_sem, *]) rfl ?_
              exact ⟨⟨_, [], [], [], false, rfl, HIN.out, OwnT.empty _ _, (by repeat' (first | (with_reducible first | exact Ext.refl _ | assumption | apply Ext.alloc | apply Ext.drew | apply Ext.drewN) | (refine Ext.setAt ?_ (by omega) _ _) | (refine Ext.trans ?_ (by assumption))))⟩⟩
      · go_loopw [70] (fun i wr => ∃ (j : Nat) (xs : List (List Int)) (vX : Value), j ≤ rl ∧ i = .int .i64 j ∧ Hid ((rs.take j).mapM (peO k p n) = some xs) ∧ OwnI wr (w1.heap.size + 2) vX xs.flatten ∧ OwnI wr (w1.heap.size + 2) (.slice aL L.length cL) L ∧ OwnI wr (w1.heap.size + 2) (.slice aD D.length cD) D ∧
            Hid (∀ z, vX.ownBlock = some z → (Value.slice aL L.length cL).ownBlock ≠ some z ∧ (Value.slice aD D.length cD).ownBlock ≠ some z) ∧ Blk wr w1.heap.size 52 [.slice aL L.length cL, .slice aD D.length cD, vX] ∧ Blk wr (w1.heap.size + 1) 9 (strs (mkSs ps)) ∧ Ext w1 wr) (fun i _ => rl - (RowKit.intOf i).toNat)
        case atStart => exact ⟨0, [], _, Nat.zero_le _, rfl, Lib.hid rfl, OwnI.nil _ _, hL, hD, Lib.hid (by simp [Value.ownBlock]), hT3, hB3, hE⟩
        case round =>
          clear hT3 hB3 hcell BK3 BR3 hs3 hlT hlB
          obtain ⟨j, xs, vX, hj, rfl, HM, hXo, hLo, hDo, HDX, hT4, hB4, hE4⟩ := hrel
          have BK4 := BK1.ext hE4
          have BR4 := BR1.ext hE4
          have hs4 := hE4.size
          have EW4 : Ext w wr := E1.trans hE4
          have hlT := hT4.lt
          have hlB := hB4.lt
          obtain ⟨X, hXX⟩ : ∃ X, xs.flatten = X := ⟨_, rfl⟩
          rw [hXX] at hXo
          have HXX := Lib.hid hXX
          clear hXX
          obtain ⟨aX, cX, hvX, hX3, hX4⟩ := hXo.ints.val
          subst hvX
          by_cases hlt : j < rl
          · obtain ⟨y, hy⟩ : ∃ y, rs[j]? = some y := ⟨_, List.getElem?_eq_getElem (by rw [HRL.out]; exact hlt)⟩
            have hr0 : ¬ rl = 0 := by omega
            obtain ⟨z2, hz2⟩ : ∃ z, mkS y = z := ⟨_, rfl⟩
            have HZ2 : Hid (z2.data.toList = y) := Lib.hid (by rw [← hz2, mkS_list])
            have hcell2 := hB4.cell (j := o + 1 + j) (u := .string z2) (by rw [← hz2]; exact HGT.out j y hy)
            have hzs2 : z2.size ≤ 1073741824 := by
              have := HPL.out y (HGT.out.mem hy)
              rw [← hz2, mkS_size]; omega
            have HY := Lib.hid hy
            have HXL := Lib.hid (flat_len HM.out)
            have k0 := BK4.cell (j := 0) rfl; have k1 := BK4.cell (j := 1) rfl; have k2 := BK4.cell (j := 2) rfl
            have hKl := BK4.lt
            clear hz2 hy
            go_wp2_with fail
            refine (parseElem_impl k p n z2 _ hzs2 (hT.ext EW4)).mono ?_; rintro e5 w5 ⟨v5, rfl, o5, h5⟩
            rw [HZ2.out] at o5 ⊢
            have BR5 := BR4.ext h5
            have E5 : Ext w1 w5 := hE4.trans h5
            cases hpe : peO k p n y with
            | none =>
              have HIN := Lib.hid (HBAD.out (pT_bad HAX.out (mapM_none _ (List.mem_of_getElem? HY.out) hpe)))
              rw [peb_none hpe]
              rw [pev_none hpe] at o5
              obtain ⟨a5, c5, hv5, _, _⟩ := o5.ints.val
              subst hv5
              clear hpe
              have f0 := BR5.free 0; have f1 := BR5.free 1; have f2 := BR5.free 2
              have r0 := BR5.cell (j := 0) rfl; have r1 := BR5.cell (j := 1) rfl; have r2 := BR5.cell (j := 2) rfl
              have hRl := BR5.lt
              go_wp2
              refine bodyPost_ret (v := .tuple #[.agg #[.slice none 0 0, .slice none 0 0, .slice none 0 0], .bool false]) (by simp [results, Tryz.results22, go_sem, *]) rfl ?_
              exact ⟨⟨_, [], [], [], false, rfl, HIN.out, OwnT.empty _ _, (by repeat' (first | (with_reducible first | exact Ext.refl _ | assumption | apply Ext.alloc | apply Ext.drew | apply Ext.drewN) | (refine Ext.setAt ?_ (by omega) _ _) | (refine Ext.trans ?_ (by assumption))))⟩⟩
            | some x5 =>
              have hx6 : x5.length ≤ 6 := by have := pe_len (k := k) (p := p) (n := n) (s := y); rwa [pev_some hpe] at this
              rw [peb_some hpe]
              rw [pev_some hpe] at o5
              have HPE := Lib.hid hpe
              clear hpe
              obtain ⟨a5, c5, hv5, _, _⟩ := o5.ints.val
              subst hv5
              have hX5 := hXo.ext h5
              have hT5 := hT4.ext h5
              have hs5 := h5.size
              have t2 := hT5.cell (j := 2) rfl
              have ht5l := hT5.lt
              have HBX : Hid (∀ q, (Value.slice aX X.length cX).ownBlock = some q → w1.heap.size + 2 ≤ q ∧ q < wr.heap.size) := Lib.hid fun q hq => hXo.block_lt hq
              have HBL : Hid (∀ q, (Value.slice aL L.length cL).ownBlock = some q → w1.heap.size + 2 ≤ q ∧ q < wr.heap.size) := Lib.hid fun q hq => hLo.block_lt hq
              have HBD : Hid (∀ q, (Value.slice aD D.length cD).ownBlock = some q → w1.heap.size + 2 ≤ q ∧ q < wr.heap.size) := Lib.hid fun q hq => hDo.block_lt hq
              have HBd : Hid (X.length + x5.length ≤ 1099511627776) := Lib.hid (by
                have h1 := HXL.out
                rw [HXX.out, List.length_take] at h1
                have : rl ≤ s.size + 1 := by have h2 := HX.out.len.1; rw [List.length_cons, HRL.out] at h2; omega
                have h3 : min j rs.length * 6 ≤ (s.size + 1) * 6 := Nat.mul_le_mul_right _ (by omega)
                omega)
              go_wp2_with (at_builtin; refine wpList_app _ rfl _ _ 27 rfl _ _ rfl rfl _ (run_app_ints _ w5 (w1.heap.size + 2) (.slice aX X.length cX) (.slice a5 x5.length c5) X x5 hX5 o5.ints HBd.out (by omega)) ?_; rintro v6 w6 ⟨o6, g6, d6⟩; have hs6 := g6.size; obtain ⟨a6, c6, hv6, hz6, hz7⟩ := o6.ints.val; rw [List.length_append] at hv6 hz6; subst hv6; have hT6 := hT5.block (g6.block _ (by omega) (fun e => by have := HBX.out _ e.symm; omega)); have z6 := hT6.free 2; have q6 := hT6.cell (j := 2) rfl; have u6 := hT6.lt; have D6 := Lib.hid d6; clear d6)
              go_roundw
              case rel =>
                have hlT2 : w1.heap.size < w1.heap.size + 2 := by omega
                refine ⟨j + 1, xs ++ [x5], _, by omega, by go_num, Lib.hid ?_, ?_, ((hLo.ext h5).only g6 (fun q hq e => (HDX.out q e).1 hq)).setBelow (p := ⟨w1.heap.size, 2, none⟩) hlT2 _, ((hDo.ext h5).only g6 (fun q hq e => (HDX.out q e).2 hq)).setBelow (p := ⟨w1.heap.size, 2, none⟩) hlT2 _, Lib.hid ?_, hT6.set 2 _, ((hB4.ext h5).block (g6.block _ (by omega) (fun e => by have := HBX.out _ e.symm; omega))).other (by simp) _, (E5.only g6 (fun q hq => by have := HBX.out q hq; omega)).setAt (Nat.le_refl _) _ _⟩
                · obtain ⟨hlt', e⟩ := List.getElem?_eq_some_iff.1 HY.out
                  rw [List.take_succ_eq_append_getElem hlt', e]
                  exact mapM_snoc _ HM.out HPE.out
                · have e : (xs ++ [x5]).flatten = X ++ x5 := by rw [List.flatten_append, HXX.out]; simp
                  rw [e]
                  exact o6.setBelow (p := ⟨w1.heap.size, 2, none⟩) hlT2 _
                · intro q hq
                  rcases D6.out with h | h
                  · have hq2 : (Value.slice aX X.length cX).ownBlock = some q := by rw [← h]; exact hq
                    exact HDX.out q hq2
                  · have hq2 : q = w5.heap.size := by
                      have : (Value.slice a6 (X.length + x5.length) c6).ownBlock = some q := hq
                      rw [h] at this; injection this with this; exact this.symm
                    exact ⟨fun e => by have := HBL.out q e; omega, fun e => by have := HBD.out q e; omega⟩
              case measure => simp [RowKit.intOf] <;> omega
          · have : j = rl := by omega
            subst this
            have hmm : rs.mapM (peO k p n) = some xs := by
              have := HM.out
              rwa [List.take_of_length_le (by rw [HRL.out]; exact Nat.le_refl _)] at this
            have hpt := pT_some HAX.out hmm
            rw [HXX.out] at hpt
            have HPT := Lib.hid hpt
            clear hpt hmm
            have k0 := BK4.cell (j := 0) rfl; have k1 := BK4.cell (j := 1) rfl; have k2 := BK4.cell (j := 2) rfl
            have t0 := hT4.cell (j := 0) rfl; have t1 := hT4.cell (j := 1) rfl; have t2 := hT4.cell (j := 2) rfl
            have hKl := BK4.lt
            have hTS : TenS wr (.agg #[.slice aL L.length cL, .slice aD D.length cD, .slice aX X.length cX]) L D X := ⟨_, _, _, rfl, hLo.ints, hDo.ints, hXo.ints⟩
            go_wp2_with fail
            refine (tensorOk_impl k p n _ L D X _ hTS).mono ?_; rintro e7 w7 ⟨rfl, h7⟩
            have BK7 := BK4.ext h7; have BR7 := BR4.ext h7; have hT7 := hT4.ext h7
            clear k0 k1 k2 t0 t1 t2
            cases htk : tensOk k p n L D X
            · have HIN := Lib.hid (HNO.out L D X HPT.out (fun h => by rw [h] at htk; cases htk))
              clear htk
              have f0 := BR7.free 0; have f1 := BR7.free 1; have f2 := BR7.free 2
              have r0 := BR7.cell (j := 0) rfl; have r1 := BR7.cell (j := 1) rfl; have r2 := BR7.cell (j := 2) rfl
              have hRl := BR7.lt
              go_wp2
              refine bodyPost_ret (v := .tuple #[.agg #[.slice none 0 0, .slice none 0 0, .slice none 0 0], .bool false]) (by simp [results, Tryz.results22, go_sem, *]) rfl ?_
              exact ⟨⟨_, [], [], [], false, rfl, HIN.out, OwnT.empty _ _, (by repeat' (first | (with_reducible first | exact Ext.refl _ | assumption | apply Ext.alloc | apply Ext.drew | apply Ext.drewN) | (refine Ext.setAt ?_ (by omega) _ _) | (refine Ext.trans ?_ (by assumption))))⟩⟩
            have HTK := Lib.hid htk
            clear htk
            have k0 := BK7.cell (j := 0) rfl; have k1 := BK7.cell (j := 1) rfl; have k2 := BK7.cell (j := 2) rfl
            have t0 := hT7.cell (j := 0) rfl; have t1 := hT7.cell (j := 1) rfl; have t2 := hT7.cell (j := 2) rfl
            have T7 : Tab w7 := hT.errs.tab.ext (EW4.trans h7)
            obtain ⟨y, hy⟩ : ∃ y, mkS (fmtTen k p n L D X) = y := ⟨_, rfl⟩
            have HY : Hid (y.data.toList = fmtTen k p n L D X) := Lib.hid (by rw [← hy, mkS_list])
            have HFT : Hid (∀ w, Tab w → TenS w (.agg #[.slice aL L.length cL, .slice aD D.length cD, .slice aX X.length cX]) L D X → Calls Tryz.prog 25 #[ringV k p n, .agg #[.slice aL L.length cL, .slice aD D.length cD, .slice aX X.length cX]] w fun e w' => e = .returned (.string y) ∧ Ext w w') := Lib.hid fun w ht hs => hy ▸ formatTensor_impl k p n _ L D X w hs ht
            have hKl7 := BK7.lt
            have hTl7 := hT7.lt
            clear hy
            by_cases hf : fmtTen k p n L D X = s.data.toList
            · have HIN := Lib.hid (TP.yes HTK.out hf)
              have hq2 := bytes_beq y s (by rw [HY.out, hf])
              have hqn2 : (y.toList != s.toList) = false := by rw [bne, hq2]; rfl
              clear hf
              go_wp2_with fail
              refine (HFT.out _ T7 (hTS.ext h7)).mono ?_; rintro e8 w8 ⟨rfl, h8⟩
              have BR8 := BR7.ext h8
              have hT8 := hT7.ext h8
              have f0 := BR8.free 0; have f1 := BR8.free 1; have f2 := BR8.free 2
              have r0 := BR8.cell (j := 0) rfl; have r1 := BR8.cell (j := 1) rfl; have r2 := BR8.cell (j := 2) rfl
              have s0 := hT8.cell (j := 0) rfl; have s1 := hT8.cell (j := 1) rfl; have s2 := hT8.cell (j := 2) rfl
              have hRl := BR8.lt
              have E8 : Ext wr w8 := h7.trans h8
              have hlow : w.heap.size + 1 < w1.heap.size + 2 := by omega
              have hne1 : ¬ w1.heap.size = w.heap.size + 1 := by omega
              go_wp2
              refine bodyPost_ret (v := .tuple #[.agg #[.slice aL L.length cL, .slice aD D.length cD, .slice aX X.length cX], .bool true]) (by simp [results, Tryz.results22, go_sem, *]) rfl ?_
              refine ⟨⟨_, L, D, X, true, rfl, HIN.out, ⟨_, _, _, rfl, ?_, ?_, ?_, fun q hq => ⟨fun e => HLD.out q hq e, fun e => (HDX.out q e).1 hq⟩, fun q hq e => (HDX.out q e).2 hq⟩, (by repeat' (first | (with_reducible first | exact Ext.refl _ | assumption | apply Ext.alloc | apply Ext.drew | apply Ext.drewN) | (refine Ext.setAt ?_ (by omega) _ _) | (refine Ext.trans ?_ (by assumption))))⟩⟩
              · exact ((((hLo.ext E8).setBelow hlow _).setBelow hlow _).setBelow hlow _).mono (by omega)
              · exact ((((hDo.ext E8).setBelow hlow _).setBelow hlow _).setBelow hlow _).mono (by omega)
              · exact ((((hXo.ext E8).setBelow hlow _).setBelow hlow _).setBelow hlow _).mono (by omega)
            · have HIN := Lib.hid (HNO.out L D X HPT.out (fun _ => hf))
              have hq2 := str_beq_no (z := y) (s := s) (by rw [HY.out]; exact hf)
              have hqn2 : (y.toList != s.toList) = true := by rw [bne, hq2]; rfl
              clear hf
              go_wp2_with fail
              refine (HFT.out _ T7 (hTS.ext h7)).mono ?_; rintro e8 w8 ⟨rfl, h8⟩
              have BR8 := BR7.ext h8
              have f0 := BR8.free 0; have f1 := BR8.free 1; have f2 := BR8.free 2
              have r0 := BR8.cell (j := 0) rfl; have r1 := BR8.cell (j := 1) rfl; have r2 := BR8.cell (j := 2) rfl
              have hRl := BR8.lt
              go_wp2
              refine bodyPost_ret (v := .tuple #[.agg #[.slice none 0 0, .slice none 0 0, .slice none 0 0], .bool false]) (by simp [results, Tryz.results22, go_sem, *]) rfl ?_
              exact ⟨⟨_, [], [], [], false, rfl, HIN.out, OwnT.empty _ _, (by repeat' (first | (with_reducible first | exact Ext.refl _ | assumption | apply Ext.alloc | apply Ext.drew | apply Ext.drewN) | (refine Ext.setAt ?_ (by omega) _ _) | (refine Ext.trans ?_ (by assumption))))⟩⟩
    · have hq : (z.toList == ([61] : List UInt8)) = false := by rw [beq_eq_false_iff_ne, ByteArray.toList_eq, HZ.out]; exact hx
      have hqn : (z.toList != ([61] : List UInt8)) = true := by rw [bne, hq]; rfl
      have HXN := Lib.hid hx
      clear hx
      obtain ⟨rl, hrl⟩ : ∃ rl, rs.length = rl := ⟨_, rfl⟩
      have HRL := Lib.hid hrl
      rw [List.length_cons, hrl]
      clear hrl
      go_wp2_with fail
      refine (parseIntList_any z 58 _ hzs (hT.ext EW)).mono ?_; rintro e4 w4 ⟨v4, rfl, o4, h4⟩
      rw [HZ.out] at o4 ⊢
      have E4 : Ext w1 w4 := hE.trans h4
      have BR4 := BR3.ext h4
      cases hi : intsBy 58 x with
      | none =>
        have HIN := Lib.hid (HBAD.out (pT_none (HX.out.none (axP_bad HXN.out hi))))
        rw [pib_none hi]
        rw [piv_none hi] at o4
        obtain ⟨a4, c4, hv4, _, _⟩ := o4.ints.val
        subst hv4
        clear hi
        have f0 := BR4.free 0; have f1 := BR4.free 1; have f2 := BR4.free 2
        have r0 := BR4.cell (j := 0) rfl; have r1 := BR4.cell (j := 1) rfl; have r2 := BR4.cell (j := 2) rfl
        have hRl := BR4.lt
        go_wp2
        refine bodyPost_ret (v := .tuple #[.agg #[.slice none 0 0, .slice none 0 0, .slice none 0 0], .bool false]) (by simp [results, Tryz.results22, go_sem, *]) rfl ?_
        exact ⟨⟨_, [], [], [], false, rfl, HIN.out, OwnT.empty _ _, (by repeat' (first | (with_reducible first | exact Ext.refl _ | assumption | apply Ext.alloc | apply Ext.drew | apply Ext.drewN) | (refine Ext.setAt ?_ (by omega) _ _) | (refine Ext.trans ?_ (by assumption))))⟩⟩
      | some xs =>
        rw [pib_some hi]
        rw [piv_some hi] at o4
        by_cases hl2 : xs.length = 2
        · obtain ⟨a, b, rfl⟩ : ∃ a b, xs = [a, b] := by
            match xs, hl2 with
            | [a, b], _ => exact ⟨a, b, rfl⟩
          have HST := Lib.hid (HX.out.step HXN.out hi)
          have HGT := Lib.hid HG.out.tail
          clear hi hl2
          obtain ⟨bp, cp, hbp, hv4, hcp1, hcp2⟩ := o4.open (by simp)
          subst hv4
          have pc0 := (o4.cell (j := 0) (x := a) rfl).1
          have pc1 := (o4.cell (j := 1) (x := b) rfl).1
          have hL4 := hL.ext h4
          have hD4 := hD.ext h4
          have hT4 := hT3.ext h4
          have hB4 := hB3.ext h4
          have hs4 := h4.size
          have t0 := hT4.cell (j := 0) rfl
          have ht4l := hT4.lt
          have hbp4 := (o4.block_lt rfl).2
          have HBL : Hid (∀ q, (Value.slice aL L.length cL).ownBlock = some q → w1.heap.size + 2 ≤ q ∧ q < wr.heap.size) := Lib.hid fun q hq => hL.block_lt hq
          have HBD : Hid (∀ q, (Value.slice aD D.length cD).ownBlock = some q → w1.heap.size + 2 ≤ q ∧ q < wr.heap.size) := Lib.hid fun q hq => hD.block_lt hq
          have hlen := HX.out.len
          rw [List.length_cons] at hlen
          have HLen := Lib.hid hlen
          clear hlen
          have D4 : Ext w4 w4.drew := (Ext.refl _).drew
          go_wp2_with fail
          go_region_law (refine step_app _ (by rfl) _ _ 27 (by rfl) _ _ (by rfl) (by rfl) _ (run_push _ w4.drew (w1.heap.size + 2) (.slice aL L.length cL) L a (hL4.ext D4) (by have := HLen.out; omega) (by show _ ≤ w4.heap.size; omega)) ?_; rintro v5 w5 ⟨o5, g5, d5⟩; have g5 : w4.grownBy w5 (Value.slice aL L.length cL).ownBlock := grownBy_trans (grown_drew (grown_refl w4 _)) g5; have hs5 := g5.size; obtain ⟨a5, c5, hv5, hz5, hz6⟩ := o5.ints.val; rw [List.length_append, List.length_singleton] at hv5 hz5; subst hv5; have hT5 := hT4.block (g5.block _ (by omega) (fun e => by have := HBL.out _ e.symm; omega)); have z5 := hT5.free 0; have q5 := hT5.cell (j := 0) rfl; have u5 := hT5.lt; have D5 := Lib.hid d5; clear d5)
          all_goals
            have hT6 := hT5.set 0 (.slice a5 (L.length + 1) c5)
            have i61 := hT6.cell (j := 1) rfl
            have hE5 : Ext w1 w5 := E4.only g5 (fun q hq => by have := HBL.out q hq; omega)
            have hE6 : Ext w1 (w5.setCell ⟨w1.heap.size, 0, none⟩ (.slice a5 (L.length + 1) c5)) := hE5.setAt (Nat.le_refl _) _ _
            have hp5 := o4.only g5 (fun q hq e => by injection hq with hq; have := HBL.out q e; have := (o4.block_lt rfl).1; omega)
            have hp6 := hp5.setOther (p := ⟨w1.heap.size, 0, none⟩) (fun q hq => by injection hq with hq; have := (o4.block_lt rfl).1; simp; omega) (.slice a5 (L.length + 1) c5)
            have pc6 := (hp6.cell (j := 1) (x := b) rfl).1
            have hD6 := (hD4.only g5 (fun q hq e => HLD.out q e hq)).setBelow (p := ⟨w1.heap.size, 0, none⟩) (show w1.heap.size < w1.heap.size + 2 by omega) (.slice a5 (L.length + 1) c5)
            have hL6 := o5.setBelow (p := ⟨w1.heap.size, 0, none⟩) (show w1.heap.size < w1.heap.size + 2 by omega) (.slice a5 (L.length + 1) c5)
            have hB6 : Blk (w5.setCell ⟨w1.heap.size, 0, none⟩ (.slice a5 (L.length + 1) c5)) (w1.heap.size + 1) 9 (strs (mkSs ps)) := (hB4.block (g5.block _ (by omega) (fun e => by have := HBL.out _ e.symm; omega))).other (by simp) _
            obtain ⟨W, hW⟩ : ∃ W, w5.setCell ⟨w1.heap.size, 0, none⟩ (.slice a5 (L.length + 1) c5) = W := ⟨_, rfl⟩
            have hsW : w4.heap.size ≤ W.heap.size := by rw [← hW]; simpa [World.setCell] using hs5
            have NL5 : Hid (∀ q, (Value.slice a5 (L.length + 1) c5).ownBlock = some q → (Value.slice aL L.length cL).ownBlock = some q ∨ w4.heap.size ≤ q) := Lib.hid (fun q hq => D5.out q hq)
            rw [hW] at hT6 i61 hE6 hp6 pc6 hD6 hL6 hB6 ⊢
            have ht6l := hT6.lt
            have hbp6 := (hp6.block_lt rfl).2
            clear hW hp5 hT5 z5 q5 u5 o5
            have DW : Ext W W.drew := (Ext.refl _).drew
            go_wp2_with fail
            go_region_law (refine step_app _ (by rfl) _ _ 27 (by rfl) _ _ (by rfl) (by rfl) _ (run_push _ W.drew (w1.heap.size + 2) (.slice aD D.length cD) D b (hD6.ext DW) (by have := HLen.out; omega) (by show _ ≤ W.heap.size; omega)) ?_; rintro v7 w7 ⟨o7, g7, d7⟩; have g7 : W.grownBy w7 (Value.slice aD D.length cD).ownBlock := grownBy_trans (grown_drew (grown_refl W _)) g7; have hs7 := g7.size; obtain ⟨a7, c7, hv7, hz7, hz8⟩ := o7.ints.val; rw [List.length_append, List.length_singleton] at hv7 hz7; subst hv7; have hT7 := hT6.block (g7.block _ (by omega) (fun e => by have := HBD.out _ e.symm; omega)); have z7 := hT7.free 1; have q7 := hT7.cell (j := 1) rfl; have u7 := hT7.lt; have D7 := Lib.hid d7; clear d7)
            all_goals
              have hT8 := hT7.set 1 (.slice a7 (D.length + 1) c7)
              have hE7 : Ext w1 w7 := hE6.only g7 (fun q hq => by have := HBD.out q hq; omega)
              have hE8 : Ext w1 (w7.setCell ⟨w1.heap.size, 1, none⟩ (.slice a7 (D.length + 1) c7)) := hE7.setAt (Nat.le_refl _) _ _
              have hL8 := (hL6.only g7 (fun q hq e => (NL5.out q hq).elim (fun h => HLD.out q h e) (fun h => by have := HBD.out q e; omega))).setBelow (p := ⟨w1.heap.size, 1, none⟩) (show w1.heap.size < w1.heap.size + 2 by omega) (.slice a7 (D.length + 1) c7)
              have hD8 := o7.setBelow (p := ⟨w1.heap.size, 1, none⟩) (show w1.heap.size < w1.heap.size + 2 by omega) (.slice a7 (D.length + 1) c7)
              have hB8 : Blk (w7.setCell ⟨w1.heap.size, 1, none⟩ (.slice a7 (D.length + 1) c7)) (w1.heap.size + 1) 9 (strs (mkSs ps)) := (hB6.block (g7.block _ (by have := hB6.lt; omega) (fun e => by have := HBD.out _ e.symm; omega))).other (by simp) _
              have HLD8 : Hid (∀ q, (Value.slice a5 (L.length + 1) c5).ownBlock = some q → (Value.slice a7 (D.length + 1) c7).ownBlock ≠ some q) := Lib.hid (fun q hq e => by
                have b1 := hL6.block_lt hq
                rcases D7.out q e with h7 | h7
                · rcases NL5.out q hq with h | h
                  · exact HLD.out q h h7
                  · have := HBD.out q h7; omega
                · have : W.heap.size ≤ q := h7; omega)
              go_wp2
              all_goals
                go_roundw
                case rel =>
                  refine ⟨rs, if rl = 0 then o else o + 1, L ++ [a], D ++ [b], _, _, ?_, ?_, HST, hL8, hD8, HLD8, hT8, hB8, hE8⟩
                  · rw [HRL.out]; by_cases h0 : rl = 0 <;> simp [h0]
                  · apply Lib.hid
                    by_cases h0 : rl = 0
                    · have : rs = [] := List.eq_nil_of_length_eq_zero (by rw [HRL.out]; exact h0)
                      subst this; intro i x hx; simp at hx
                    · rw [if_neg h0]; exact HGT.out
                case measure => simp [leftOf]
        · have HIN := Lib.hid (HBAD.out (pT_none (HX.out.none (axP_len HXN.out hi hl2))))
          obtain ⟨a4, c4, hv4, _, _⟩ := o4.ints.val
          subst hv4
          obtain ⟨xl, hxl⟩ : ∃ xl, xs.length = xl := ⟨_, rfl⟩
          rw [hxl] at hl2 ⊢
          have hne : ((xl : Int) != 2) = true := by rw [bne_iff_ne]; omega
          clear hi hxl hl2 o4
          have f0 := BR4.free 0; have f1 := BR4.free 1; have f2 := BR4.free 2
          have r0 := BR4.cell (j := 0) rfl; have r1 := BR4.cell (j := 1) rfl; have r2 := BR4.cell (j := 2) rfl
          have hRl := BR4.lt
          go_wp2
          refine bodyPost_ret (v := .tuple #[.agg #[.slice none 0 0, .slice none 0 0, .slice none 0 0], .bool false]) (by simp [results, Tryz.results22, go_sem, *]) rfl ?_
          exact ⟨⟨_, [], [], [], false, rfl, HIN.out, OwnT.empty _ _, (by repeat' (first | (with_reducible first | exact Ext.refl _ | assumption | apply Ext.alloc | apply Ext.drew | apply Ext.drewN) | (refine Ext.setAt ?_ (by omega) _ _) | (refine Ext.trans ?_ (by assumption))))⟩⟩
end Go.Proofs.YtlgjddgajdjllaaGreatDoor
