/- IsForest of the program. -/
import Derived.Test.YtpegckmagiaggaaABase
import Derived.Test.YtpegckmagiaggaaAPartsW
namespace Go.Proofs.Ytpegckmagiaggaa
open Go.RowKit
set_option linter.unusedSimpArgs false
set_option linter.unusedVariables false
/-- The edges of the tensors from the i-th on. -/
def edgesR (T : Nat) (Ls : List (List Int)) (m i : Nat) : List (Nat × Nat) := ((List.range m).drop i).flatMap fun i => edgeTo T i (labL Ls i)
theorem edgesR_zero (T : Nat) (Ls : List (List Int)) (m : Nat) : edgesR T Ls m 0 = edgesL T Ls m := rfl
theorem edgesR_all (T : Nat) (Ls : List (List Int)) (m : Nat) : edgesR T Ls m m = [] := by
  unfold edgesR
  rw [List.drop_eq_nil_of_le (by simp)]; rfl
theorem edgesR_step (T : Nat) (Ls : List (List Int)) {m i : Nat} (h : i < m) : edgesR T Ls m i = edgeTo T i (labL Ls i) ++ edgesR T Ls m (i + 1) := by
  unfold edgesR
  rw [List.drop_eq_getElem_cons (by simpa using h), List.flatMap_cons]
  simp
theorem edgeTo_drop {T i : Nat} {L : List Int} {q : Nat} {x : Int} (h : L[q]? = some x) : (edgeTo T i L).drop q = (i, T + x.toNat) :: (edgeTo T i L).drop (q + 1) := by
  have h2 : (edgeTo T i L)[q]? = some (i, T + x.toNat) := by unfold edgeTo; rw [List.getElem?_map, h]; rfl
  obtain ⟨hlt, e⟩ := List.getElem?_eq_some_iff.1 h2
  rw [List.drop_eq_getElem_cons hlt, e]
theorem edgeTo_len (T i : Nat) (L : List Int) : (edgeTo T i L).length = L.length := by simp [edgeTo]
theorem forestGo_cons_eq {r : List Int} {u v : Nat} {E : List (Nat × Nat)} (h : atL r u = atL r v) : forestGo r ((u, v) :: E) = false := by
  unfold forestGo; rw [if_pos h]
theorem forestGo_cons_ne {r : List Int} {u v : Nat} {E : List (Nat × Nat)} (h : ¬ atL r u = atL r v) : forestGo r ((u, v) :: E) = forestGo (mrgL r (atL r u) (atL r v)) E := by
  conv => lhs; unfold forestGo
  rw [if_neg h]
theorem mkIntsN (m : Nat) (h : m ≤ 1000) (w : World) : (Instr.makeSlice 27 (.int .i64 ((m : Int) + 100)) (.int .i64 ((m : Int) + 100))).run Try.prog w =
    .ok (.slice (some ⟨w.heap.size, 0, none⟩) (m + 100) (m + 100)) (w.alloc (.cells (madeCells #[.int .i64 0] (m + 100)) 3)) := by
  have h := mkInts (m + 100) (by omega) w
  rwa [show ((m + 100 : Nat) : Int) = (m : Int) + 100 by omega] at h
set_option maxRecDepth 100000 in
set_option maxHeartbeats 8000000 in
theorem isForest_any {k p n : Int} (hr : ringOk k p n = true) {dm : Int → Int} {U : List Int} {ts : List (NT k p n)} {op : List Int} (hN : IsN k p n dm U ts op) (tv ov : Value) (w : World) (hT : TensS w tv (ts.map (tenOf dm))) (hO : IntS w ov op) :
    Calls Try.prog 18 #[.agg #[.int .i64 k, .int .i64 p, .int .i64 n, tv, ov]] w fun e w' => e = .returned (.bool (forestGo (idL (ts.length + 100)) (edgesL ts.length (ts.map (·.1)) ts.length))) ∧ Ext w w' := by
  have hT0 := hT
  have hO0 := hO
  obtain ⟨m, hm⟩ : ∃ m, ts.length = m := ⟨_, rfl⟩
  obtain ⟨aV, cV, rfl, hcT1, hcT2⟩ := hT.val
  obtain ⟨aO, cO, rfl, hcO1, hcO2⟩ := hO.val
  rw [List.length_map, hm] at hT hT0 hcT1
  rw [List.length_map, hm]
  have hm12 : m ≤ 12 := by rw [← hm]; exact hN.len
  have hop12 : op.length ≤ 12 := hN.rank
  have HM := Lib.hid hm; have HR := Lib.hid hr; have HN := Lib.hid hN; have HD3 := Lib.hid hN.dims3; clear hm hr hN
  have hTl : Hid ((ts.map (tenOf dm)).length = m) := Lib.hid (by rw [List.length_map]; exact HM.out)
  obtain ⟨RS, hRS⟩ : ∃ q, forestGo (idL (m + 100)) (edgesL m (ts.map (·.1)) m) = q := ⟨_, rfl⟩
  rw [hRS]
  have HRS := Lib.hid hRS; clear hRS
  go_enter Try.func18, Try.ntmps18
  go_upto_region 1 with fail
  have hH : Held w w [] := Held.new (Ext.refl w) 0
  have hB : Held w (w.alloc (.cells #[.int .i64 k, .int .i64 p, .int .i64 n, .slice aV m cV, .slice aO op.length cO] 29)) [aB (w.heap.size) 29 [.int .i64 k, .int .i64 p, .int .i64 n, .slice aV m cV, .slice aO op.length cO]] := by
    have h := (hH.mores 1).addB 0 #[.int .i64 k, .int .i64 p, .int .i64 n, .slice aV m cV, .slice aO op.length cO] 29
    exact h
  have hsz : (w.alloc (.cells #[.int .i64 k, .int .i64 p, .int .i64 n, .slice aV m cV, .slice aO op.length cO] 29)).heap.size = w.heap.size + 1 := by simp
  generalize w.alloc (.cells #[.int .i64 k, .int .i64 p, .int .i64 n, .slice aV m cV, .slice aO op.length cO] 29) = wn1 at hB hsz ⊢
  replace hH := hB; have HSZwn1 := Lib.hid hsz; clear hB hsz
  have q0_0 := (hH.blk (k := 0) rfl).cell (j := 0) rfl
  have q0_1 := (hH.blk (k := 0) rfl).cell (j := 1) rfl
  have q0_2 := (hH.blk (k := 0) rfl).cell (j := 2) rfl
  have q0_3 := (hH.blk (k := 0) rfl).cell (j := 3) rfl
  have q0_4 := (hH.blk (k := 0) rfl).cell (j := 4) rfl
  have l0_ := (hH.blk (k := 0) rfl).lt
  go_wp2_with fail
  clear q0_0 q0_1 q0_2 q0_3 q0_4 l0_
  refine (networkOk_any HR.out HN.out _ _ _ (hT0.ext hH.ext) (hO0.ext hH.ext)).mono ?_; rintro ewn2 wn2 ⟨rfl, hwn2⟩
  replace hH : Held w wn2 [aB (w.heap.size) 29 [.int .i64 k, .int .i64 p, .int .i64 n, .slice aV m cV, .slice aO op.length cO]] := hH.grow hwn2
  clear hwn2
  have hmk := mkIntsN m (by omega)
  have q0_0 := (hH.blk (k := 0) rfl).cell (j := 0) rfl
  have q0_1 := (hH.blk (k := 0) rfl).cell (j := 1) rfl
  have q0_2 := (hH.blk (k := 0) rfl).cell (j := 2) rfl
  have q0_3 := (hH.blk (k := 0) rfl).cell (j := 3) rfl
  have q0_4 := (hH.blk (k := 0) rfl).cell (j := 4) rfl
  have l0_ := (hH.blk (k := 0) rfl).lt
  go_wp2_with fail
  clear q0_0 q0_1 q0_2 q0_3 q0_4 l0_
  clear hmk
  obtain ⟨N, hNN⟩ : ∃ q, m + 100 = q := ⟨_, rfl⟩
  obtain ⟨pb, hpb⟩ : ∃ q, wn2.heap.size = q := ⟨_, rfl⟩
  have hB := (hH.mores 1).madeI 1 (m + 100) (by omega)
  rw [hpb] at hB ⊢
  rw [hNN] at hB ⊢
  rw [show (m : Int) + 100 = (N : Int) by omega]
  generalize wn2.alloc (.cells (madeCells #[.int .i64 0] N) 3) = wn3 at hB ⊢
  have HNN := Lib.hid hNN; have hN1 : N ≤ 112 := by omega
  clear hpb hNN
  replace hH : Held w wn3 [aB (w.heap.size) 29 [.int .i64 k, .int .i64 p, .int .i64 n, .slice aV m cV, .slice aO op.length cO], aI (.slice (some ⟨pb, 0, none⟩) N N) (List.replicate N 0)] := hB
  clear hB
  have HIL := Lib.hid (idL_length N)
  have HRS2 : Hid (forestGo (idL N) (edgesR m (ts.map (·.1)) m 0) = RS) := Lib.hid (by rw [edgesR_zero, ← HNN.out]; exact HRS.out)
  go_loopw [22] (fun i wr => ∃ j : Nat, j ≤ N ∧ i = .int .i64 (j : Int) ∧ Held w wr [aB (w.heap.size) 29 [.int .i64 k, .int .i64 p, .int .i64 n, .slice aV m cV, .slice aO op.length cO], aI (.slice (some ⟨pb, 0, none⟩) N N) (fillZ (idL N) j)]) (fun i wr => N - (RowKit.intOf i).toNat)
  case atStart => exact ⟨0, Nat.zero_le _, rfl, by rw [fillZ_zero, HIL.out]; exact hH⟩
  case round =>
    clear hH
    obtain ⟨j, hj, rfl, hH⟩ := hrel
    by_cases hlt : j < N
    · skip
      have hij : (idL N)[j]? = some (j : Int) := by unfold idL; rw [List.getElem?_map, List.getElem?_range hlt]; rfl
      have HJ := Lib.hid (fillZ_set hij)
      obtain ⟨F, hF⟩ : ∃ F, fillZ (idL N) j = F := ⟨_, rfl⟩
      have hFl : F.length = N := by rw [← hF, fillZ_len _ j (by rw [HIL.out]; exact hj), HIL.out]
      rw [hF] at hH HJ
      obtain ⟨z, hz⟩ : ∃ z, F[j]? = some z := ⟨_, List.getElem?_eq_getElem (by omega)⟩
      obtain ⟨hcF, hfF⟩ := (hH.own (k := 1) rfl).cell hz
      have hlF := ((hH.own (k := 1) rfl).block_lt rfl).2
      have hH2 := hH.setI (k := 1) rfl j (by omega) (j : Int)
      clear hF hij hz hFl
      go_wp2_with fail
      go_roundw
      case rel => exact ⟨j + 1, by omega, by go_num, by rw [← HJ.out]; exact hH2⟩
      case measure => simp [RowKit.intOf]; omega
    · skip
      have hje : j = N := by omega
      subst hje
      obtain ⟨N, hmj⟩ : ∃ q, q = j := ⟨j, rfl⟩
      subst hmj
      obtain ⟨wa, rfl⟩ : ∃ q, q = wr := ⟨wr, rfl⟩
      replace hH : Held w wa [aB (w.heap.size) 29 [.int .i64 k, .int .i64 p, .int .i64 n, .slice aV m cV, .slice aO op.length cO], aI (.slice (some ⟨pb, 0, none⟩) N N) (idL N)] := by have h := hH; rw [show fillZ (idL N) N = idL N by have h2 := fillZ_all (idL N); rw [HIL.out] at h2; exact h2] at h; exact h
      have q0_0 := (hH.blk (k := 0) rfl).cell (j := 0) rfl
      have q0_1 := (hH.blk (k := 0) rfl).cell (j := 1) rfl
      have q0_2 := (hH.blk (k := 0) rfl).cell (j := 2) rfl
      have q0_3 := (hH.blk (k := 0) rfl).cell (j := 3) rfl
      have q0_4 := (hH.blk (k := 0) rfl).cell (j := 4) rfl
      have l0_ := (hH.blk (k := 0) rfl).lt
      go_wp2_with fail
      clear q0_0 q0_1 q0_2 q0_3 q0_4 l0_
      go_loopw [33] (fun i wr => ∃ (i' : Nat) (P : List Int), i' ≤ m ∧ i = .int .i64 (i' : Int) ∧ Held w wr [aB (w.heap.size) 29 [.int .i64 k, .int .i64 p, .int .i64 n, .slice aV m cV, .slice aO op.length cO], aI (.slice (some ⟨pb, 0, none⟩) N N) P] ∧ Hid (forestGo P (edgesR m (ts.map (·.1)) m i') = RS ∧ P.length = N)) (fun i wr => m - (RowKit.intOf i).toNat)
      case atStart => exact ⟨0, _, Nat.zero_le _, rfl, hH, Lib.hid ⟨HRS2.out, HIL.out⟩⟩
      case round =>
        clear hH
        obtain ⟨i, P, hi, rfl, hH, HP⟩ := hrel
        by_cases hlt : i < m
        · skip
          obtain ⟨bT, oT, u1, u2, u3, t3, hV, hu0I, hu1I, hu2I, ht3, hTuI⟩ := hT.get (i := i) (by rw [hTl.out]; exact hlt)
          subst hV
          obtain ⟨t, htj, rfl⟩ : ∃ t, ts[i]? = some t ∧ tenOf dm t = t3 := by rw [List.getElem?_map] at ht3; exact Option.map_eq_some_iff.1 ht3
          have HTJI := Lib.hid htj; have HTII := Lib.hid (HN.out.ten t (List.mem_of_getElem? htj)); clear ht3 htj
          obtain ⟨tlI, xsI⟩ := t
          obtain ⟨e1I, m1, f1I, e2I, m2, f2I, e3I, m3I, f3I, hvv⟩ := hTuI.shape
          simp at hvv
          obtain ⟨rfl, rfl, rfl⟩ := hvv
          rw [Nat.mul_comm 3 i] at hu0I hu1I hu2I
          obtain ⟨_, _, _, hvv, hTLI, hTDI, hTXI⟩ := hTuI.val
          simp at hvv
          obtain ⟨rfl, rfl, rfl⟩ := hvv
          simp only [tenOf] at hTuI hTLI hTDI hTXI HTII
          obtain ⟨_, _, hvv, _, _⟩ := hTLI.val
          simp at hvv
          obtain ⟨rfl, rfl, rfl⟩ := hvv
          obtain ⟨_, _, hvv, _, _⟩ := hTDI.val
          simp at hvv
          obtain ⟨rfl, rfl, rfl⟩ := hvv
          have HLI : Hid (labL (ts.map (·.1)) i = tlI) := Lib.hid (labL_of (by rw [List.getElem?_map, HTJI.out]; rfl))
          have HED := Lib.hid (show edgesR m (ts.map (·.1)) m i = edgeTo m i tlI ++ edgesR m (ts.map (·.1)) m (i + 1) by rw [edgesR_step _ _ hlt, HLI.out])
          obtain ⟨ER, hER⟩ : ∃ q, edgesR m (ts.map (·.1)) m (i + 1) = q := ⟨_, rfl⟩
          rw [hER] at HED
          have HER := Lib.hid hER; clear hER
          have q0_0 := (hH.blk (k := 0) rfl).cell (j := 0) rfl
          have q0_1 := (hH.blk (k := 0) rfl).cell (j := 1) rfl
          have q0_2 := (hH.blk (k := 0) rfl).cell (j := 2) rfl
          have q0_3 := (hH.blk (k := 0) rfl).cell (j := 3) rfl
          have q0_4 := (hH.blk (k := 0) rfl).cell (j := 4) rfl
          have l0_ := (hH.blk (k := 0) rfl).lt
          have c_hu0I := hH.ext.cell hu0I
          have c_hu1I := hH.ext.cell hu1I
          have c_hu2I := hH.ext.cell hu2I
          go_upto_region 12 with fail
          clear q0_0 q0_1 q0_2 q0_3 q0_4 l0_ c_hu0I c_hu1I c_hu2I
          have hB : Held w (wr.alloc (.cells #[.slice e1I tlI.length f1I, .slice e2I tlI.length f2I, .slice e3I m3I f3I] 32)) [aB (w.heap.size) 29 [.int .i64 k, .int .i64 p, .int .i64 n, .slice (some ⟨bT, oT, none⟩) m cV, .slice aO op.length cO], aI (.slice (some ⟨pb, 0, none⟩) N N) P, aB (wr.heap.size) 32 [.slice e1I tlI.length f1I, .slice e2I tlI.length f2I, .slice e3I m3I f3I]] := by
            have h := (hH.mores 1).addB 2 #[.slice e1I tlI.length f1I, .slice e2I tlI.length f2I, .slice e3I m3I f3I] 32
            exact h
          have hsz : (wr.alloc (.cells #[.slice e1I tlI.length f1I, .slice e2I tlI.length f2I, .slice e3I m3I f3I] 32)).heap.size = wr.heap.size + 1 := by simp
          generalize wr.alloc (.cells #[.slice e1I tlI.length f1I, .slice e2I tlI.length f2I, .slice e3I m3I f3I] 32) = wn4 at hB hsz ⊢
          replace hH := hB; have HSZwn4 := Lib.hid hsz; clear hB hsz
          obtain ⟨tb, htb⟩ : ∃ q, wr.heap.size = q := ⟨_, rfl⟩
          rw [htb] at hH ⊢
          clear htb
          have q0_0 := (hH.blk (k := 0) rfl).cell (j := 0) rfl
          have q0_1 := (hH.blk (k := 0) rfl).cell (j := 1) rfl
          have q0_2 := (hH.blk (k := 0) rfl).cell (j := 2) rfl
          have q0_3 := (hH.blk (k := 0) rfl).cell (j := 3) rfl
          have q0_4 := (hH.blk (k := 0) rfl).cell (j := 4) rfl
          have l0_ := (hH.blk (k := 0) rfl).lt
          have q2_0 := (hH.blk (k := 2) rfl).cell (j := 0) rfl
          have q2_1 := (hH.blk (k := 2) rfl).cell (j := 1) rfl
          have q2_2 := (hH.blk (k := 2) rfl).cell (j := 2) rfl
          have l2_ := (hH.blk (k := 2) rfl).lt
          have c_hu0I := hH.ext.cell hu0I
          have c_hu1I := hH.ext.cell hu1I
          have c_hu2I := hH.ext.cell hu2I
          go_wp2_with fail
          clear q0_0 q0_1 q0_2 q0_3 q0_4 l0_ q2_0 q2_1 q2_2 l2_ c_hu0I c_hu1I c_hu2I
          go_loopw [41] (fun j wr => ∃ (q : Nat) (P : List Int), q ≤ tlI.length ∧ j = .int .i64 (q : Int) ∧ Held w wr [aB (w.heap.size) 29 [.int .i64 k, .int .i64 p, .int .i64 n, .slice (some ⟨bT, oT, none⟩) m cV, .slice aO op.length cO], aI (.slice (some ⟨pb, 0, none⟩) N N) P, aB tb 32 [.slice e1I tlI.length f1I, .slice e2I tlI.length f2I, .slice e3I m3I f3I]] ∧ Hid (forestGo P ((edgeTo m i tlI).drop q ++ ER) = RS ∧ P.length = N)) (fun j wr => tlI.length - (RowKit.intOf j).toNat)
          case atStart => exact ⟨0, P, Nat.zero_le _, rfl, hH, Lib.hid ⟨by rw [List.drop_zero, ← HED.out]; exact HP.out.1, HP.out.2⟩⟩
          case round =>
            clear hH HP P
            obtain ⟨q, P, hq, rfl, hH, HP⟩ := hrel
            by_cases hlq : q < tlI.length
            · skip
              obtain ⟨bL, oL, x, rfl, hcL, hx, _⟩ := hTLI.get hlq
              have hxr := HTII.out.uni.labs (HTII.out.sub.sub x (List.mem_of_getElem? hx))
              obtain ⟨c, rfl⟩ : ∃ c : Nat, x = (c : Int) := ⟨x.toNat, by omega⟩
              have hc : c < 100 := by omega
              have HDR := Lib.hid (edgeTo_drop (T := m) (i := i) hx)
              have hNN := HNN.out
              obtain ⟨x, hxi⟩ : ∃ x, P[i]? = some x := ⟨_, List.getElem?_eq_getElem (by have := HP.out.2; omega)⟩
              obtain ⟨y, hyi⟩ : ∃ y, P[m + c]? = some y := ⟨_, List.getElem?_eq_getElem (by have := HP.out.2; omega)⟩
              have hcx := ((hH.own (k := 1) rfl).cell hxi).1
              have hcy := ((hH.own (k := 1) rfl).cell hyi).1
              have hlP := ((hH.own (k := 1) rfl).block_lt rfl).2
              have HAX := Lib.hid (show atL P i = x by unfold atL; rw [List.getD_eq_getElem?_getD, hxi]; rfl)
              have HAY := Lib.hid (show atL P (m + c) = y by unfold atL; rw [List.getD_eq_getElem?_getD, hyi]; rfl)
              have hil : (i : Int) < (N : Int) := by omega
              have hi0 : (0 : Int) ≤ (i : Int) := by omega
              have hmc0 : (0 : Int) ≤ (m : Int) + (c : Int) := by omega
              have hmc1 : (m : Int) + (c : Int) < (N : Int) := by omega
              have hmt : ((m : Int) + (c : Int)).toNat = m + c := by omega
              have hwr : IntKind.i64.wrap ((m : Int) + (c : Int)) = (m : Int) + (c : Int) := by rw [IntKind.wrap_i64]; omega
              clear hx hxi hyi hNN hxr
              have q0_0 := (hH.blk (k := 0) rfl).cell (j := 0) rfl
              have q0_1 := (hH.blk (k := 0) rfl).cell (j := 1) rfl
              have q0_2 := (hH.blk (k := 0) rfl).cell (j := 2) rfl
              have q0_3 := (hH.blk (k := 0) rfl).cell (j := 3) rfl
              have q0_4 := (hH.blk (k := 0) rfl).cell (j := 4) rfl
              have l0_ := (hH.blk (k := 0) rfl).lt
              have q2_0 := (hH.blk (k := 2) rfl).cell (j := 0) rfl
              have q2_1 := (hH.blk (k := 2) rfl).cell (j := 1) rfl
              have q2_2 := (hH.blk (k := 2) rfl).cell (j := 2) rfl
              have l2_ := (hH.blk (k := 2) rfl).lt
              have c_hu0I := hH.ext.cell hu0I
              have c_hu1I := hH.ext.cell hu1I
              have c_hu2I := hH.ext.cell hu2I
              have c_hcL := hH.ext.cell hcL
              go_upto_region 16 with (go_quiet (fail))
              clear q0_0 q0_1 q0_2 q0_3 q0_4 l0_ q2_0 q2_1 q2_2 l2_ c_hu0I c_hu1I c_hu2I c_hcL
              have hHq := hH.grow ((Ext.refl _).drewN nq)
              generalize wr.drewN nq = wq at hHq ⊢
              clear hH hcx hcy
              have hH := hHq; clear hHq
              by_cases hxy : x = y
              · skip
                subst hxy
                have HF := Lib.hid (show RS = false by rw [← HP.out.1, HDR.out]; exact forestGo_cons_eq (by rw [HAX.out]; exact HAY.out.symm))
                have HE := Lib.hid hH.ext; clear hH
                go_wp2
                go_ret
                exact ⟨by rw [HF.out]; rfl, HE.out⟩
              · skip
                have HF := Lib.hid (show forestGo (mrgL P x y) ((edgeTo m i tlI).drop (q + 1) ++ ER) = RS by have h := HP.out.1; rw [HDR.out] at h; rw [← h, ← HAX.out, ← HAY.out]; refine (forestGo_cons_ne (r := P) (u := i) (v := m + c) ?_).symm; rw [HAX.out, HAY.out]; exact hxy)
                go_wp2_with fail
                go_loopw [62] (fun i wr => ∃ kk : Nat, kk ≤ N ∧ i = .int .i64 (kk : Int) ∧ Held w wr [aB (w.heap.size) 29 [.int .i64 k, .int .i64 p, .int .i64 n, .slice (some ⟨bT, oT, none⟩) m cV, .slice aO op.length cO], aI (.slice (some ⟨pb, 0, none⟩) N N) (fillM P x y kk), aB tb 32 [.slice (some ⟨bL, oL, none⟩) tlI.length f1I, .slice e2I tlI.length f2I, .slice e3I m3I f3I]]) (fun i wr => N - (RowKit.intOf i).toNat)
                case atStart => exact ⟨0, Nat.zero_le _, rfl, by rw [fillM_zero]; exact hH⟩
                case round =>
                  clear hH
                  obtain ⟨k', hk, rfl, hH⟩ := hrel
                  by_cases hlk : k' < N
                  · skip
                    obtain ⟨z, hz⟩ : ∃ z, P[k']? = some z := ⟨_, List.getElem?_eq_getElem (by have := HP.out.2; omega)⟩
                    have HS := fillM_step (a := x) (b := y) hz
                    have hFl := fillM_len P x y k' (by have := HP.out.2; omega)
                    rw [HP.out.2] at hFl
                    have hzF := fillM_get (a := x) (b := y) hz
                    obtain ⟨F, hF⟩ : ∃ F, fillM P x y k' = F := ⟨_, rfl⟩
                    rw [hF] at hH HS hFl hzF
                    obtain ⟨hcF, hfF⟩ := (hH.own (k := 1) rfl).cell hzF
                    have hlF := ((hH.own (k := 1) rfl).block_lt rfl).2
                    have hH2 := hH.setI (k := 1) rfl k' (by omega) x
                    clear hF hz hzF hFl
                    by_cases hzh : z = y
                    · rw [if_pos hzh] at HS
                      have HS := Lib.hid HS
                      subst hzh
                      go_wp2_with fail
                      go_roundw
                      case rel => exact ⟨k' + 1, by omega, by go_num, by rw [← HS.out]; exact hH2⟩
                      case measure => simp [RowKit.intOf]; omega
                    · rw [if_neg hzh] at HS
                      have HS := Lib.hid HS
                      go_wp2_with fail
                      go_roundw
                      case rel => exact ⟨k' + 1, by omega, by go_num, by rw [← HS.out]; exact hH⟩
                      case measure => simp [RowKit.intOf]; omega
                  · skip
                    have hke : k' = N := by omega
                    rw [hke] at hH
                    have e : fillM P x y N = mrgL P x y := by have h := fillM_all P x y; rw [HP.out.2] at h; exact h
                    rw [e] at hH
                    clear e
                    go_wp2_with fail
                    go_roundw
                    case rel => exact ⟨q + 1, _, by omega, by go_num, hH, Lib.hid ⟨HF.out, by rw [mrgL_length]; exact HP.out.2⟩⟩
                    case measure => simp [RowKit.intOf]; omega
            · skip
              have hqe : q = tlI.length := by omega
              subst hqe
              have hE := HP.out.1; rw [List.drop_eq_nil_of_le (by rw [edgeTo_len]; exact Nat.le_refl _), List.nil_append, ← HER.out] at hE
              have HE := Lib.hid hE; clear hE
              go_wp2_with fail
              go_roundw
              case rel => exact ⟨i + 1, P, by omega, by go_num, hH.sub (.cons_cons _ (.cons_cons _ (.cons _ .slnil))), Lib.hid ⟨HE.out, HP.out.2⟩⟩
              case measure => simp [RowKit.intOf]; omega
        · skip
          have hie : i = m := by omega
          subst hie
          have HF := Lib.hid (show RS = true by rw [← HP.out.1, edgesR_all]; rfl)
          have HE := Lib.hid hH.ext; clear hH
          go_wp2
          go_ret
          exact ⟨by rw [HF.out]; rfl, HE.out⟩
end Go.Proofs.Ytpegckmagiaggaa
