/- rawSetLabels, SetLabels of the program. -/
import Derived.Test.YtpegckmagiaggaaTG12
set_option linter.unusedSimpArgs false
set_option linter.unusedVariables false
namespace Go.Proofs.Ytpegckmagiaggaa
open Go.RowKit
theorem bit_and1 (s j : Nat) (hs : s < 1099511627776) : bits .and .i64 ((s : Int) / 2 ^ j) 1 = if s.testBit j = true then 1 else 0 := by
  have e1 : ((s : Int) / 2 ^ j) = ((s / 2 ^ j : Nat) : Int) := by
    rw [Int.natCast_ediv, Int.natCast_pow]; rfl
  have hlt : s / 2 ^ j < 1099511627776 := Nat.lt_of_le_of_lt (Nat.div_le_self _ _) hs
  have h := bits_mask .i64 62 (by decide) (fun n h0 h1 => by rw [IntKind.wrap_i64]; omega) 1 (by decide) ((s / 2 ^ j : Nat) : Int) (Int.natCast_nonneg _) (by omega)
  rw [e1]
  have h2 : bits .and .i64 ((s / 2 ^ j : Nat) : Int) 1 = ((s / 2 ^ j : Nat) : Int) % 2 := h
  rw [h2, Nat.testBit_eq_decide_div_mod_eq]
  by_cases e : s / 2 ^ j % 2 = 1
  · simp [e]; omega
  · simp [e]; omega
theorem wrap_pow (m : Nat) (h : m ≤ 12) : wrap64 ((2 : Int) ^ m) = ((2 ^ m : Nat) : Int) := by
  have : 2 ^ m ≤ 4096 := Nat.pow_le_pow_right (n := 2) (by decide) h
  have e : (2 : Int) ^ m = ((2 ^ m : Nat) : Int) := by rw [Int.natCast_pow]; rfl
  rw [e]
  generalize 2 ^ m = M at this
  simp only [wrap64]
  omega
section
variable {k p n : Int}
def bitN (ts : List (NT k p n)) (s : Nat) (m : Nat) : List (NT k p n) := (List.range m).filterMap fun i : Nat => if s.testBit i = true then ts[i]? else none
def nbitN (ts : List (NT k p n)) (s : Nat) (m : Nat) : List (NT k p n) := (List.range m).filterMap fun i : Nat => if s.testBit i = true then none else ts[i]?
theorem bitN_yes {ts : List (NT k p n)} {s j : Nat} {t : NT k p n} (h : s.testBit j = true) (ht : ts[j]? = some t) : bitN ts s (j + 1) = bitN ts s j ++ [t] ∧ nbitN ts s (j + 1) = nbitN ts s j := by
  unfold bitN nbitN
  rw [List.range_succ, List.filterMap_append, List.filterMap_append]
  simp [h, ht]
theorem bitN_no {ts : List (NT k p n)} {s j : Nat} {t : NT k p n} (h : s.testBit j = false) (ht : ts[j]? = some t) : bitN ts s (j + 1) = bitN ts s j ∧ nbitN ts s (j + 1) = nbitN ts s j ++ [t] := by
  unfold bitN nbitN
  rw [List.range_succ, List.filterMap_append, List.filterMap_append]
  simp [h, ht]
end
set_option maxRecDepth 100000 in
set_option maxHeartbeats 16000000 in
theorem rawSetLabels_any {k p n : Int} (hr : ringOk k p n = true) {dm : Int → Int} {U : List Int} {ts : List (NT k p n)} {op : List Int} (hN : IsN k p n dm U ts op) (tv ov : Value) (w : World) (hT : TensS w tv (ts.map (tenOf dm))) (hO : IntS w ov op) (s : Nat) (hs : s < 4096) :
 Calls Try.prog 93 #[.agg #[.int .i64 k, .int .i64 p, .int .i64 n, tv, ov], .int .i64 (s : Int)] w fun e w' => ∃ u, e = .returned u ∧ Held w w' [aI u (setLab (occ (bitN ts s ts.length)) (occ (nbitN ts s ts.length)) op)] := by
 have hT0 := hT
 have hO0 := hO
 obtain ⟨m, hm⟩ : ∃ m, ts.length = m := ⟨_, rfl⟩
 obtain ⟨aV, cV, rfl, hcT1, hcT2⟩ := hT.val
 obtain ⟨aO, cO, rfl, hcO1, hcO2⟩ := hO.val
 rw [List.length_map, hm] at hT hT0 hcT1
 rw [List.length_map, hm]
 have hm12 : m ≤ 12 := by rw [← hm]; exact hN.len
 have hop12 : op.length ≤ 12 := hN.rank
 have HM := Lib.hid hm; have HR := Lib.hid hr; have HN := Lib.hid hN; have HD3 := Lib.hid hN.dims3; clear hm hr hN
 have hTl : Hid ((ts.map (tenOf dm)).length = m) := Lib.hid (by rw [List.length_map]; exact HM.out)
 obtain ⟨RL, hRL⟩ : ∃ q, setLab (occ (bitN ts s m)) (occ (nbitN ts s m)) op = q := ⟨_, rfl⟩
 rw [hRL]
 have HRL := Lib.hid hRL; clear hRL
 go_enter Try.func93, Try.ntmps93
 go_upto_region 1 with fail
 have hH : Held w w [] := Held.new (Ext.refl w) 0
 have hB : Held w (w.alloc (.cells #[.int .i64 k, .int .i64 p, .int .i64 n, .slice aV m cV, .slice aO op.length cO] 29)) [aB (w.heap.size) 29 [.int .i64 k, .int .i64 p, .int .i64 n, .slice aV m cV, .slice aO op.length cO]] := by
  have h := (hH.mores 1).addB 0 #[.int .i64 k, .int .i64 p, .int .i64 n, .slice aV m cV, .slice aO op.length cO] 29
  exact h
 have hsz : (w.alloc (.cells #[.int .i64 k, .int .i64 p, .int .i64 n, .slice aV m cV, .slice aO op.length cO] 29)).heap.size = w.heap.size + 1 := by simp
 generalize w.alloc (.cells #[.int .i64 k, .int .i64 p, .int .i64 n, .slice aV m cV, .slice aO op.length cO] 29) = wn1 at hB hsz ⊢
 replace hH := hB; have HSZwn1 := Lib.hid hsz; clear hB hsz
 go_upto_region 2 with (first | (refine wpList_alloc_arrB rfl rfl ?_))
 have hB : Held w (wn1.alloc (.cells arrF 103)) [aB (w.heap.size) 29 [.int .i64 k, .int .i64 p, .int .i64 n, .slice aV m cV, .slice aO op.length cO], aB (w.heap.size + 1) 103 (bls (setA []))] := by
  have h := (hH.mores 1).addF 1
  rw [HSZwn1.out] at h
  exact h
 have hsz : (wn1.alloc (.cells arrF 103)).heap.size = w.heap.size + 1 + 1 := by rw [← HSZwn1.out]; simp
 generalize wn1.alloc (.cells arrF 103) = wn2 at hB hsz ⊢
 replace hH := hB; have HSZwn2 := Lib.hid hsz; clear hB hsz
 rw [HSZwn1.out]
 have hB : Held w (wn2.alloc (.cells arrF 103)) [aB (w.heap.size) 29 [.int .i64 k, .int .i64 p, .int .i64 n, .slice aV m cV, .slice aO op.length cO], aB (w.heap.size + 1) 103 (bls (setA [])), aB (w.heap.size + 1 + 1) 103 (bls (setA []))] := by
  have h := (hH.mores 1).addF 2
  rw [HSZwn2.out] at h
  exact h
 have hsz : (wn2.alloc (.cells arrF 103)).heap.size = w.heap.size + 1 + 1 + 1 := by rw [← HSZwn2.out]; simp
 generalize wn2.alloc (.cells arrF 103) = wn3 at hB hsz ⊢
 replace hH := hB; have HSZwn3 := Lib.hid hsz; clear hB hsz
 rw [HSZwn2.out]
 have q0_0 := hH.cl 0 0 rfl rfl; have q0_1 := hH.cl 0 1 rfl rfl; have q0_2 := hH.cl 0 2 rfl rfl; have q0_3 := hH.cl 0 3 rfl rfl; have q0_4 := hH.cl 0 4 rfl rfl; have l0_ := hH.bl 0 rfl
 go_wp2_with fail
 clear q0_0 q0_1 q0_2 q0_3 q0_4 l0_
 obtain ⟨ib, hib⟩ : ∃ q, w.heap.size + 1 = q := ⟨_, rfl⟩
 obtain ⟨ob, hob⟩ : ∃ q, w.heap.size + 1 + 1 = q := ⟨_, rfl⟩
 rw [hob, hib] at hH
 rw [hob, hib]
 clear hib hob
 replace hH : Held w wn3 [aB (w.heap.size) 29 [.int .i64 k, .int .i64 p, .int .i64 n, .slice aV m cV, .slice aO op.length cO], aB ib 103 (bls (setA [])), aB ob 103 (bls (setA []))] := hH
 refine (markLabels_any ob [] op _ _ (hH.blk (k := 2) rfl) (hO.ext hH.ext) HN.out.opR (by omega)).mono ?_; rintro ewn4 wn4 ⟨rfl, hB, hg⟩
 replace hH : Held w wn4 [aB (w.heap.size) 29 [.int .i64 k, .int .i64 p, .int .i64 n, .slice aV m cV, .slice aO op.length cO], aB ib 103 (bls (setA [])), aB ob 103 (bls (setA ([] ++ op)))] := hH.turn (k := 2) rfl (A := aB ob 103 (bls (setA ([] ++ op)))) hg (fun q hq => by cases hq; simp [aB]) hB (fun q hq => .inl hq)
 clear hg hB
 have q0_0 := hH.cl 0 0 rfl rfl; have q0_1 := hH.cl 0 1 rfl rfl; have q0_2 := hH.cl 0 2 rfl rfl; have q0_3 := hH.cl 0 3 rfl rfl; have q0_4 := hH.cl 0 4 rfl rfl; have l0_ := hH.bl 0 rfl
 go_wp2_with fail
 clear q0_0 q0_1 q0_2 q0_3 q0_4 l0_
 have e0 : Hid (op ++ occ (nbitN ts s 0) = [] ++ op) := Lib.hid (by rw [show nbitN ts s 0 = [] from rfl, show occ ([] : List (NT k p n)) = [] from rfl, List.append_nil, List.nil_append])
 go_loopw [17] (fun i wr => ∃ j : Nat, j ≤ m ∧ i = .int .i64 (j : Int) ∧ Held w wr [aB (w.heap.size) 29 [.int .i64 k, .int .i64 p, .int .i64 n, .slice aV m cV, .slice aO op.length cO], aB ib 103 (bls (setA (occ (bitN ts s j)))), aB ob 103 (bls (setA (op ++ occ (nbitN ts s j))))]) (fun i wr => m - (RowKit.intOf i).toNat)
 case atStart => exact ⟨0, Nat.zero_le _, rfl, by rw [e0.out]; exact hH⟩
 case round =>
  clear hH
  obtain ⟨j, hj, rfl, hH⟩ := hrel
  by_cases hlt : j < m
  ·
   obtain ⟨bT, oT, u1, u2, u3, t3, hV, hu0I, hu1I, hu2I, ht3, hTuI⟩ := hT.get (i := j) (by rw [hTl.out]; exact hlt)
   subst hV
   obtain ⟨t, htj, rfl⟩ : ∃ t, ts[j]? = some t ∧ tenOf dm t = t3 := by rw [List.getElem?_map] at ht3; exact Option.map_eq_some_iff.1 ht3
   have HTJI := Lib.hid htj; have HTII := Lib.hid (HN.out.ten t (List.mem_of_getElem? htj)); clear ht3 htj
   obtain ⟨tlI, xsI⟩ := t
   obtain ⟨e1I, m1, f1I, e2I, m2, f2I, e3I, m3I, f3I, hvv⟩ := hTuI.shape
   simp at hvv
   obtain ⟨rfl, rfl, rfl⟩ := hvv
   rw [Nat.mul_comm 3 j] at hu0I hu1I hu2I
   obtain ⟨_, _, _, hvv, hTLI, hTDI, hTXI⟩ := hTuI.val
   simp at hvv
   obtain ⟨rfl, rfl, rfl⟩ := hvv
   simp only [tenOf] at hTuI hTLI hTDI hTXI HTII
   obtain ⟨_, _, hvv, _, _⟩ := hTLI.val
   simp at hvv
   obtain ⟨rfl, rfl, rfl⟩ := hvv
   obtain ⟨_, _, hvv, _, _⟩ := hTDI.val
   simp at hvv
   obtain ⟨rfl, rfl, rfl⟩ := hvv
   have hrk : tlI.length ≤ 12 := HTII.out.ax.rank
   have HLB := Lib.hid (fun z hz => HTII.out.uni.labs (HTII.out.sub.sub z hz))
   obtain ⟨SI, hSI⟩ : ∃ q, occ (bitN ts s j) = q := ⟨_, rfl⟩
   obtain ⟨SO, hSO⟩ : ∃ q, op ++ occ (nbitN ts s j) = q := ⟨_, rfl⟩
   rw [hSI, hSO] at hH
   have HSI := Lib.hid hSI; have HSO := Lib.hid hSO; clear hSI hSO
   have q0_0 := hH.cl 0 0 rfl rfl; have q0_1 := hH.cl 0 1 rfl rfl; have q0_2 := hH.cl 0 2 rfl rfl; have q0_3 := hH.cl 0 3 rfl rfl; have q0_4 := hH.cl 0 4 rfl rfl; have l0_ := hH.bl 0 rfl; have c_hu0I := hH.ext.cell hu0I; have c_hu1I := hH.ext.cell hu1I; have c_hu2I := hH.ext.cell hu2I
   go_upto_region 6 with fail
   clear q0_0 q0_1 q0_2 q0_3 q0_4 l0_ c_hu0I c_hu1I c_hu2I
   have hB : Held w (wr.alloc (.cells #[.slice e1I tlI.length f1I, .slice e2I tlI.length f2I, .slice e3I m3I f3I] 32)) [aB (w.heap.size) 29 [.int .i64 k, .int .i64 p, .int .i64 n, .slice (some ⟨bT, oT, none⟩) m cV, .slice aO op.length cO], aB ib 103 (bls (setA SI)), aB ob 103 (bls (setA SO)), aB (wr.heap.size) 32 [.slice e1I tlI.length f1I, .slice e2I tlI.length f2I, .slice e3I m3I f3I]] := by
    have h := (hH.mores 1).addB 3 #[.slice e1I tlI.length f1I, .slice e2I tlI.length f2I, .slice e3I m3I f3I] 32
    exact h
   have hsz : (wr.alloc (.cells #[.slice e1I tlI.length f1I, .slice e2I tlI.length f2I, .slice e3I m3I f3I] 32)).heap.size = wr.heap.size + 1 := by simp
   generalize wr.alloc (.cells #[.slice e1I tlI.length f1I, .slice e2I tlI.length f2I, .slice e3I m3I f3I] 32) = wn5 at hB hsz ⊢
   replace hH := hB; have HSZwn5 := Lib.hid hsz; clear hB hsz
   have hbit := bit_and1 s j (by omega)
   cases hb : s.testBit j
   ·
    rw [hb] at hbit
    simp only [Bool.false_eq_true, if_false, if_true] at hbit
    obtain ⟨hS1, hS2⟩ := bitN_no hb HTJI.out
    have HS1 := Lib.hid (show occ (bitN ts s (j + 1)) = SI by rw [hS1, HSI.out])
    have HS2 := Lib.hid (show op ++ occ (nbitN ts s (j + 1)) = SO ++ tlI by rw [hS2, occ_snoc, ← List.append_assoc, HSO.out])
    clear hS1 hS2 hb
    have q0_0 := hH.cl 0 0 rfl rfl; have q0_1 := hH.cl 0 1 rfl rfl; have q0_2 := hH.cl 0 2 rfl rfl; have q0_3 := hH.cl 0 3 rfl rfl; have q0_4 := hH.cl 0 4 rfl rfl; have l0_ := hH.bl 0 rfl; have q3_0 := hH.cl 3 0 rfl rfl; have q3_1 := hH.cl 3 1 rfl rfl; have q3_2 := hH.cl 3 2 rfl rfl; have l3_ := hH.bl 3 rfl; have c_hu0I := hH.ext.cell hu0I; have c_hu1I := hH.ext.cell hu1I; have c_hu2I := hH.ext.cell hu2I
    go_wp2_with fail
    clear q0_0 q0_1 q0_2 q0_3 q0_4 l0_ q3_0 q3_1 q3_2 l3_ c_hu0I c_hu1I c_hu2I
    clear hbit
    refine (markLabels_any ob SO tlI _ _ (hH.blk (k := 2) rfl) (hTLI.ext hH.ext) HLB.out (by omega)).mono ?_; rintro ewn6 wn6 ⟨rfl, hB, hg⟩
    replace hH : Held w wn6 [aB (w.heap.size) 29 [.int .i64 k, .int .i64 p, .int .i64 n, .slice (some ⟨bT, oT, none⟩) m cV, .slice aO op.length cO], aB ib 103 (bls (setA SI)), aB ob 103 (bls (setA (SO ++ tlI))), aB (wr.heap.size) 32 [.slice e1I tlI.length f1I, .slice e2I tlI.length f2I, .slice e3I m3I f3I]] := hH.turn (k := 2) rfl (A := aB ob 103 (bls (setA (SO ++ tlI)))) hg (fun q hq => by cases hq; simp [aB]) hB (fun q hq => .inl hq)
    clear hg hB
    go_wp2_with fail
    go_roundw
    case rel => exact ⟨j + 1, by omega, by go_num, by rw [HS1.out, HS2.out]; exact hH.sub (.cons_cons _ (.cons_cons _ (.cons_cons _ (.cons _ .slnil))))⟩
    case measure => simp [RowKit.intOf]; omega
   ·
    rw [hb] at hbit
    simp only [Bool.false_eq_true, if_false, if_true] at hbit
    obtain ⟨hS1, hS2⟩ := bitN_yes hb HTJI.out
    have HS1 := Lib.hid (show occ (bitN ts s (j + 1)) = SI ++ tlI by rw [hS1, occ_snoc, HSI.out])
    have HS2 := Lib.hid (show op ++ occ (nbitN ts s (j + 1)) = SO by rw [hS2, HSO.out])
    clear hS1 hS2 hb
    have q0_0 := hH.cl 0 0 rfl rfl; have q0_1 := hH.cl 0 1 rfl rfl; have q0_2 := hH.cl 0 2 rfl rfl; have q0_3 := hH.cl 0 3 rfl rfl; have q0_4 := hH.cl 0 4 rfl rfl; have l0_ := hH.bl 0 rfl; have q3_0 := hH.cl 3 0 rfl rfl; have q3_1 := hH.cl 3 1 rfl rfl; have q3_2 := hH.cl 3 2 rfl rfl; have l3_ := hH.bl 3 rfl; have c_hu0I := hH.ext.cell hu0I; have c_hu1I := hH.ext.cell hu1I; have c_hu2I := hH.ext.cell hu2I
    go_wp2_with fail
    clear q0_0 q0_1 q0_2 q0_3 q0_4 l0_ q3_0 q3_1 q3_2 l3_ c_hu0I c_hu1I c_hu2I
    clear hbit
    refine (markLabels_any ib SI tlI _ _ (hH.blk (k := 1) rfl) (hTLI.ext hH.ext) HLB.out (by omega)).mono ?_; rintro ewn6 wn6 ⟨rfl, hB, hg⟩
    replace hH : Held w wn6 [aB (w.heap.size) 29 [.int .i64 k, .int .i64 p, .int .i64 n, .slice (some ⟨bT, oT, none⟩) m cV, .slice aO op.length cO], aB ib 103 (bls (setA (SI ++ tlI))), aB ob 103 (bls (setA SO)), aB (wr.heap.size) 32 [.slice e1I tlI.length f1I, .slice e2I tlI.length f2I, .slice e3I m3I f3I]] := hH.turn (k := 1) rfl (A := aB ib 103 (bls (setA (SI ++ tlI)))) hg (fun q hq => by cases hq; simp [aB]) hB (fun q hq => .inl hq)
    clear hg hB
    go_wp2_with fail
    go_roundw
    case rel => exact ⟨j + 1, by omega, by go_num, by rw [HS1.out, HS2.out]; exact hH.sub (.cons_cons _ (.cons_cons _ (.cons_cons _ (.cons _ .slnil))))⟩
    case measure => simp [RowKit.intOf]; omega
  ·
   have hje : j = m := by omega
   subst hje
   obtain ⟨m, hmj⟩ : ∃ q, q = j := ⟨j, rfl⟩
   subst hmj
   obtain ⟨wc, rfl⟩ : ∃ q, q = wr := ⟨wr, rfl⟩
   obtain ⟨SI, hSI⟩ : ∃ q, occ (bitN ts s m) = q := ⟨_, rfl⟩
   obtain ⟨SO, hSO⟩ : ∃ q, occ (nbitN ts s m) = q := ⟨_, rfl⟩
   rw [hSI, hSO] at hH
   have HSI := Lib.hid hSI; have HSO := Lib.hid hSO; clear hSI hSO hj hlt
   have q0_0 := hH.cl 0 0 rfl rfl; have q0_1 := hH.cl 0 1 rfl rfl; have q0_2 := hH.cl 0 2 rfl rfl; have q0_3 := hH.cl 0 3 rfl rfl; have q0_4 := hH.cl 0 4 rfl rfl; have l0_ := hH.bl 0 rfl
   go_wp2_with fail
   clear q0_0 q0_1 q0_2 q0_3 q0_4 l0_
   replace hH : Held w wc [aB (w.heap.size) 29 [.int .i64 k, .int .i64 p, .int .i64 n, .slice aV m cV, .slice aO op.length cO], aB ib 103 (bls (setA SI)), aB ob 103 (bls (setA (op ++ SO))), aI (.slice none 0 0) []] := hH.nilI
   go_loopw [9, 34] (fun vo i wr => ∃ j : Nat, j ≤ 100 ∧ i = .int .i64 (j : Int) ∧ Held w wr [aB (w.heap.size) 29 [.int .i64 k, .int .i64 p, .int .i64 n, .slice aV m cV, .slice aO op.length cO], aB ib 103 (bls (setA SI)), aB ob 103 (bls (setA (op ++ SO))), aI vo ((all100.take j).filter fun x => hasL SI x && (hasL op x || hasL SO x))]) (fun vo i wr => 100 - (RowKit.intOf i).toNat)
   case atStart => exact ⟨0, Nat.zero_le _, rfl, hH⟩
   case round =>
    clear hH
    rename_i vo
    obtain ⟨j, hj, rfl, hH⟩ := hrel
    obtain ⟨F, hF⟩ : ∃ q, ((all100.take j).filter fun x => hasL SI x && (hasL op x || hasL SO x)) = q := ⟨_, rfl⟩
    rw [hF] at hH
    have hFl : F.length ≤ 100 := by rw [← hF]; refine Nat.le_trans (List.length_filter_le _ _) ?_; rw [List.length_take, all100_len]; omega
    have HF := Lib.hid hF; clear hF
    obtain ⟨aF, cF, hvo, _, _⟩ := (hH.ints (k := 3) rfl).val
    subst hvo
    by_cases hlt : j < 100
    ·
     have hx := all100_get hlt
     have hHA : hasL (op ++ SO) (j : Int) = (hasL op (j : Int) || hasL SO (j : Int)) := by rw [Bool.eq_iff_iff, Bool.or_eq_true, hasL_iff, hasL_iff, hasL_iff, List.mem_append]
     have hcI := (hH.blk (k := 1) rfl).cell (j := j) (u := .bool (hasL SI (j : Int))) (by rw [bls_get, setA_get SI hlt]; rfl)
     have hlI := hH.bl 1 rfl
     have hcU := (hH.blk (k := 2) rfl).cell (j := j) (u := .bool (hasL op (j : Int) || hasL SO (j : Int))) (by rw [bls_get, setA_get _ hlt, hHA]; rfl)
     have hlU := hH.bl 2 rfl
     have hc3 : (0 : Int) ≤ (j : Int) := by omega
     have hc4 : (j : Int) < 100 := by omega
     clear hHA
     cases hi : hasL SI (j : Int)
     ·
      have HF2 := Lib.hid (show ((all100.take (j + 1)).filter fun x => hasL SI x && (hasL op x || hasL SO x)) = F by rw [filter_snoc_no (f := fun x => hasL SI x && (hasL op x || hasL SO x)) hx (by simp [hi])]; exact HF.out)
      rw [hi] at hcI
      clear hi hx
      go_wp2_with fail
      go_roundw
      case rel => exact ⟨j + 1, by omega, by go_num, by rw [HF2.out]; exact hH⟩
      case measure => simp [RowKit.intOf]; omega
     ·
      cases ho : (hasL op (j : Int) || hasL SO (j : Int))
      ·
       have HF2 := Lib.hid (show ((all100.take (j + 1)).filter fun x => hasL SI x && (hasL op x || hasL SO x)) = F by rw [filter_snoc_no (f := fun x => hasL SI x && (hasL op x || hasL SO x)) hx (by rw [ho]; simp)]; exact HF.out)
       rw [hi] at hcI
       rw [ho] at hcU
       clear hi ho hx
       go_wp2_with fail
       go_roundw
       case rel => exact ⟨j + 1, by omega, by go_num, by rw [HF2.out]; exact hH⟩
       case measure => simp [RowKit.intOf]; omega
      ·
       have HF2 := Lib.hid (show ((all100.take (j + 1)).filter fun x => hasL SI x && (hasL op x || hasL SO x)) = F ++ [(j : Int)] by rw [filter_snoc_yes (f := fun x => hasL SI x && (hasL op x || hasL SO x)) hx (by rw [hi, ho]; rfl)]; rw [HF.out])
       rw [hi] at hcI
       rw [ho] at hcU
       clear hi ho hx
       go_wp2_with (at_builtin; refine wpList_app _ rfl _ _ 27 rfl _ _ rfl rfl _ (run_push _ _ w.heap.size _ F (j : Int) (hH.own (k := 3) rfl) (by omega) hH.size) ?_; rintro v6 w6 ⟨o6, g6, n6⟩)
       go_roundw
       case rel => exact ⟨j + 1, by omega, by go_num, by rw [HF2.out]; exact hH.pushed (k := 3) rfl o6 g6 n6⟩
       case measure => simp [RowKit.intOf]; omega
    ·
     have hje : j = 100 := by omega
     subst hje
     have HFF : Hid (RL = F) := Lib.hid (by have h := HF.out; rw [List.take_of_length_le (by rw [all100_len]; exact Nat.le_refl _)] at h; rw [← HRL.out, HSI.out, HSO.out]; exact h)
     have HK := Lib.hid (hH.sub (.cons _ (.cons _ (.cons _ (.cons_cons _ .slnil))))); clear hH
     go_wp2
     go_ret
     exact ⟨_, rfl, by rw [HFF.out]; exact HK.out⟩
end Go.Proofs.Ytpegckmagiaggaa
