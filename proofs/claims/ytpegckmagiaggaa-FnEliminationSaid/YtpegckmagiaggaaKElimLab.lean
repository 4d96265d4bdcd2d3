/- EliminateLabels of the program. -/
import Derived.Test.YtpegckmagiaggaaKElimS
import Derived.Test.YtpegckmagiaggaaKJoinL
set_option linter.unusedSimpArgs false
set_option linter.unusedVariables false
namespace Go.Proofs.Ytpegckmagiaggaa
open Go.RowKit
set_option maxRecDepth 100000 in
set_option maxHeartbeats 4000000 in
theorem eliminateLabels_any {k p n : Int} (hr : ringOk k p n = true) {dm : Int → Int} {U : List Int} {ts : List (NT k p n)} {op : List Int} (hN : IsN k p n dm U ts op) (tv ov : Value) (w : World) (hT : TensS w tv (ts.map (tenOf dm))) (hO : IntS w ov op) (od : Value) (l : List Int) (hL : IntS w od l) (hp : (closedL ts op).Perm l) :
 Calls Try.prog 79 #[.agg #[.int .i64 k, .int .i64 p, .int .i64 n, tv, ov], od] w fun e w' => ∃ u, e = .returned (.tuple #[u, .bool true]) ∧ OwnT w' w.heap.size u op (op.map dm) (flat (netXs hr dm ts op)) ∧ Ext w w' := by
 have hT0 := hT
 have hO0 := hO
 obtain ⟨m, hm⟩ : ∃ m, ts.length = m := ⟨_, rfl⟩
 obtain ⟨aV, cV, rfl, hcT1, hcT2⟩ := hT.val
 obtain ⟨aO, cO, rfl, hcO1, hcO2⟩ := hO.val
 rw [List.length_map, hm] at hT hT0 hcT1
 rw [List.length_map, hm]
 have hm12 : m ≤ 12 := by rw [← hm]; exact hN.len
 have hop12 : op.length ≤ 12 := hN.rank
 have HM := Lib.hid hm; have HR := Lib.hid hr; have HN := Lib.hid hN; have HD3 := Lib.hid hN.dims3; clear hm  hN
 have hTl : Hid ((ts.map (tenOf dm)).length = m) := Lib.hid (by rw [List.length_map]; exact HM.out)
 have HPE := Lib.hid hp; have HLN : Hid l.Nodup := Lib.hid (hp.nodup_iff.1 (closedL_nodup ts op)); clear hp
 obtain ⟨aL, cL, rfl, _, _⟩ := hL.val
 go_enter Try.func79, Try.ntmps79
 go_upto_region 1 with fail
 have hH : Held w w [] := Held.new (Ext.refl w) 0
 have hB : Held w (w.alloc (.cells #[.int .i64 k, .int .i64 p, .int .i64 n, .slice aV m cV, .slice aO op.length cO] 29)) [aB (w.heap.size) 29 [.int .i64 k, .int .i64 p, .int .i64 n, .slice aV m cV, .slice aO op.length cO]] := by
  have h := (hH.mores 1).addB 0 #[.int .i64 k, .int .i64 p, .int .i64 n, .slice aV m cV, .slice aO op.length cO] 29
  exact h
 have hsz : (w.alloc (.cells #[.int .i64 k, .int .i64 p, .int .i64 n, .slice aV m cV, .slice aO op.length cO] 29)).heap.size = w.heap.size + 1 := by simp
 generalize w.alloc (.cells #[.int .i64 k, .int .i64 p, .int .i64 n, .slice aV m cV, .slice aO op.length cO] 29) = wn1 at hB hsz ⊢
 replace hH := hB; have HSZwn1 := Lib.hid hsz; clear hB hsz
 have hB : Held w (wn1.alloc (.cells #[.slice none 0 0, .slice none 0 0, .slice none 0 0] 32)) [aB (w.heap.size) 29 [.int .i64 k, .int .i64 p, .int .i64 n, .slice aV m cV, .slice aO op.length cO], aB (w.heap.size + 1) 32 [.slice none 0 0, .slice none 0 0, .slice none 0 0]] := by
  have h := (hH.mores 1).addB 1 #[.slice none 0 0, .slice none 0 0, .slice none 0 0] 32
  rw [HSZwn1.out] at h
  exact h
 have hsz : (wn1.alloc (.cells #[.slice none 0 0, .slice none 0 0, .slice none 0 0] 32)).heap.size = w.heap.size + 1 + 1 := by rw [← HSZwn1.out]; simp
 generalize wn1.alloc (.cells #[.slice none 0 0, .slice none 0 0, .slice none 0 0] 32) = wn2 at hB hsz ⊢
 replace hH := hB; have HSZwn2 := Lib.hid hsz; clear hB hsz
 have q0_0 := hH.cl 0 0 rfl rfl; have q0_1 := hH.cl 0 1 rfl rfl; have q0_2 := hH.cl 0 2 rfl rfl; have q0_3 := hH.cl 0 3 rfl rfl; have q0_4 := hH.cl 0 4 rfl rfl; have l0_ := hH.bl 0 rfl; have q1_0 := hH.cl 1 0 rfl rfl; have q1_1 := hH.cl 1 1 rfl rfl; have q1_2 := hH.cl 1 2 rfl rfl; have l1_ := hH.bl 1 rfl
 go_wp2_with fail
 clear q0_0 q0_1 q0_2 q0_3 q0_4 l0_ q1_0 q1_1 q1_2 l1_
 refine (eliminationOk_any HR.out HN.out _ _ _ (hT0.ext hH.ext) (hO.ext hH.ext) _ l (hL.ext hH.ext) HPE.out).mono ?_; rintro ewn3 wn3 ⟨rfl, hwn3⟩
 replace hH : Held w wn3 [aB (w.heap.size) 29 [.int .i64 k, .int .i64 p, .int .i64 n, .slice aV m cV, .slice aO op.length cO], aB (w.heap.size + 1) 32 [.slice none 0 0, .slice none 0 0, .slice none 0 0]] := hH.grow hwn3
 clear hwn3
 have q0_0 := hH.cl 0 0 rfl rfl; have q0_1 := hH.cl 0 1 rfl rfl; have q0_2 := hH.cl 0 2 rfl rfl; have q0_3 := hH.cl 0 3 rfl rfl; have q0_4 := hH.cl 0 4 rfl rfl; have l0_ := hH.bl 0 rfl; have q1_0 := hH.cl 1 0 rfl rfl; have q1_1 := hH.cl 1 1 rfl rfl; have q1_2 := hH.cl 1 2 rfl rfl; have l1_ := hH.bl 1 rfl
 go_wp2_with fail
 clear q0_0 q0_1 q0_2 q0_3 q0_4 l0_ q1_0 q1_1 q1_2 l1_
 have hET : ∃ f : Nat → List (NT k p n), (fun j => elimTs HR.out dm ts (l.take j)) = f := ⟨_, rfl⟩
 obtain ⟨ET, hET⟩ := hET
 have HPX : Hid (∀ j, (l.take j ++ l.drop j).Nodup ∧ ∀ x ∈ l.take j ++ l.drop j, x ∈ occ ts ∧ x ∉ op) := Lib.hid fun j => by
  rw [List.take_append_drop]
  exact ⟨HLN.out, fun x hx => (mem_closedL HN.out).1 (HPE.out.mem_iff.2 hx)⟩
 have HEO : Hid (∀ j, IsN k p n dm U (ET j) op ∧ netXs HR.out dm (ET j) op = netXs HR.out dm ts op ∧ ∀ x ∈ l.drop j, x ∈ occ (ET j)) := Lib.hid fun j => by rw [← hET]; exact elimTs_ok HR.out HN.out _ _ (HPX.out j).1 (HPX.out j).2
 have HE0 : Hid (ET 0 = ts) := Lib.hid (by rw [← hET]; rfl)
 have HES : Hid (∀ j x, l[j]? = some x → ET (j + 1) = elimT HR.out dm (ET j) x ∧ x ∈ l.drop j) := Lib.hid fun j x h => by
  rw [← hET]
  have hj := (List.getElem?_eq_some_iff.1 h).1
  refine ⟨?_, ?_⟩
  · show elimTs HR.out dm ts (l.take (j + 1)) = _
    rw [List.take_add_one, h]
    exact elimTs_snoc HR.out dm ts _ x
  · rw [List.drop_eq_getElem_cons hj, List.getElem?_eq_getElem hj] at *
    simp at h
    simp [h]
 clear hET
 refine (copyNetwork_any HR.out HN.out _ _ _ (hT.ext hH.ext) (hO.ext hH.ext)).mono ?_; rintro ewn4 wn4 ⟨tv9, ov9, cs, rfl, hJ⟩
 obtain ⟨aP, cP, rfl⟩ := (hJ.own (k := 1) rfl).shape1 op.length rfl
 obtain ⟨aK, cK, rfl, _, _⟩ := (hJ.tensS (k := 0) rfl).val
 rw [hTl.out] at hJ ⊢
 replace hH : Held w wn4 [aB (w.heap.size) 29 [.int .i64 k, .int .i64 p, .int .i64 n, .slice aV m cV, .slice aO op.length cO], aB (w.heap.size + 1) 32 [.slice none 0 0, .slice none 0 0, .slice none 0 0], aTs (.slice aK m cK) cs (ts.map (tenOf dm)), aI (.slice aP op.length cP) op] := hH.join hJ (fun q hq => by cases hq)
 clear hJ
 have hfd : ∀ w : World, (Instr.field 29 (.agg #[.int .i64 k, .int .i64 p, .int .i64 n, .slice aK m cK, .slice aP op.length cP]) 1).run Try.prog w = .ok (.slice aK m cK) w := fun _ => by kernel_rfl
 have q0_0 := hH.cl 0 0 rfl rfl; have q0_1 := hH.cl 0 1 rfl rfl; have q0_2 := hH.cl 0 2 rfl rfl; have q0_3 := hH.cl 0 3 rfl rfl; have q0_4 := hH.cl 0 4 rfl rfl; have l0_ := hH.bl 0 rfl; have q1_0 := hH.cl 1 0 rfl rfl; have q1_1 := hH.cl 1 1 rfl rfl; have q1_2 := hH.cl 1 2 rfl rfl; have l1_ := hH.bl 1 rfl
 go_wp2_with fail
 clear q0_0 q0_1 q0_2 q0_3 q0_4 l0_ q1_0 q1_1 q1_2 l1_
 clear hfd
 replace hH : Held w wn4 [aB (w.heap.size) 29 [.int .i64 k, .int .i64 p, .int .i64 n, .slice aV m cV, .slice aO op.length cO], aB (w.heap.size + 1) 32 [.slice none 0 0, .slice none 0 0, .slice none 0 0], aTs (.slice aK m cK) cs (ts.map (tenOf dm))] := hH.sub (.cons_cons _ (.cons_cons _ (.cons_cons _ (.cons _ .slnil))))
 go_loopw [6, 27] (fun va i wr => ∃ (j : Nat) (cs : List (Value × Value × Value)), j ≤ l.length ∧ i = .int .i64 (j : Int) ∧ Held w wr [aB (w.heap.size) 29 [.int .i64 k, .int .i64 p, .int .i64 n, .slice aV m cV, .slice aO op.length cO], aB (w.heap.size + 1) 32 [.slice none 0 0, .slice none 0 0, .slice none 0 0], aTs va cs ((ET j).map (tenOf dm))]) (fun va i wr => l.length - (RowKit.intOf i).toNat)
 case atStart => exact ⟨0, cs, Nat.zero_le _, rfl, by rw [HE0.out]; exact hH⟩
 case round =>
  clear hH cs
  obtain ⟨j, cs, hj, rfl, hH⟩ := hrel
  obtain ⟨wq, rfl⟩ : ∃ q, q = wr := ⟨wr, rfl⟩
  have HEJ := Lib.hid (HEO.out j)
  obtain ⟨TJ, hTJ⟩ : ∃ q, ET j = q := ⟨_, rfl⟩
  have HTJ := Lib.hid hTJ
  rw [hTJ] at HEJ hH
  clear hTJ
  obtain ⟨mj, hmj⟩ : ∃ q, TJ.length = q := ⟨_, rfl⟩
  have hmj12 : mj ≤ 12 := by rw [← hmj]; exact HEJ.out.1.len
  have HMJ := Lib.hid hmj; clear hmj
  obtain ⟨aA, cA, hva, hcA1, _⟩ := (hH.tensS (k := 2) rfl).val
  rw [List.length_map, HMJ.out] at hva hcA1
  subst hva
  by_cases hlt : j < l.length
  ·
   obtain ⟨bL, oL, x, hVL, hcx, hx, _⟩ := hL.get (i := j) hlt
   subst hVL
   have HX := Lib.hid (HES.out j x hx); clear hx
   have HXO : Hid (x ∈ occ TJ) := Lib.hid (HEJ.out.2.2 x HX.out.2)
   have hBT : ∃ f : Nat → List (NT k p n), (fun i => bucketT (TJ.take i) x) = f := ⟨_, rfl⟩
   obtain ⟨BT, hBT⟩ := hBT
   have hLT : ∃ f : Nat → List (NT k p n), (fun i => leftT (TJ.take i) x) = f := ⟨_, rfl⟩
   obtain ⟨LT, hLT⟩ := hLT
   have HB0 : Hid (BT 0 = [] ∧ LT 0 = []) := Lib.hid (by rw [← hBT, ← hLT]; exact ⟨rfl, rfl⟩)
   have HBE : Hid (BT mj = bucketT TJ x ∧ LT mj = leftT TJ x) := Lib.hid (by rw [← hBT, ← hLT, ← HMJ.out]; simp only [List.take_length]; exact ⟨trivial, trivial⟩)
   have HBY : Hid (∀ i t, TJ[i]? = some t → hasL t.1 x = true → BT (i + 1) = BT i ++ [t] ∧ LT (i + 1) = LT i) := Lib.hid fun i t ht hh => by rw [← hBT, ← hLT]; exact bucketT_yes ht hh
   have HBN : Hid (∀ i t, TJ[i]? = some t → hasL t.1 x = false → BT (i + 1) = BT i ∧ LT (i + 1) = LT i ++ [t]) := Lib.hid fun i t ht hh => by rw [← hBT, ← hLT]; exact bucketT_no ht hh
   have HBL : Hid (∀ i, (BT i).length ≤ 12 ∧ (LT i).length ≤ 12) := Lib.hid fun i => by
    rw [← hBT, ← hLT]
    have e1 := List.length_filter_le (fun t : NT k p n => hasL t.1 x) (TJ.take i)
    have e2 := List.length_filter_le (fun t : NT k p n => !hasL t.1 x) (TJ.take i)
    have e3 : (TJ.take i).length ≤ TJ.length := by rw [List.length_take]; omega
    have e4 := HMJ.out
    exact ⟨Nat.le_trans e1 (by omega), Nat.le_trans e2 (by omega)⟩
   clear hBT hLT
   have c_x := hH.ext.cell hcx; have q0_0 := hH.cl 0 0 rfl rfl; have q0_1 := hH.cl 0 1 rfl rfl; have q0_2 := hH.cl 0 2 rfl rfl; have q0_3 := hH.cl 0 3 rfl rfl; have q0_4 := hH.cl 0 4 rfl rfl; have l0_ := hH.bl 0 rfl; have q1_0 := hH.cl 1 0 rfl rfl; have q1_1 := hH.cl 1 1 rfl rfl; have q1_2 := hH.cl 1 2 rfl rfl; have l1_ := hH.bl 1 rfl
   go_wp2_with fail
   clear q0_0 q0_1 q0_2 q0_3 q0_4 l0_ q1_0 q1_1 q1_2 l1_
   clear c_x
   replace hH := (hH.nilR 32 3).nilR 32 3
   replace hH : Held w wq [aB (w.heap.size) 29 [.int .i64 k, .int .i64 p, .int .i64 n, .slice aV m cV, .slice aO op.length cO], aB (w.heap.size + 1) 32 [.slice none 0 0, .slice none 0 0, .slice none 0 0], aTs (.slice aA mj cA) cs (TJ.map (tenOf dm)), aR 32 3 (.slice none 0 0) 0 [], aR 32 3 (.slice none 0 0) 0 []] := hH
   go_loopw [9, 10, 33] (fun vb vl iv wr => ∃ (i nb nl kb kl : Nat) (ab al : Option Addr) (cb cl : List (Value × Value × Value)), i ≤ mj ∧ iv = .int .i64 (i : Int) ∧ vb = .slice ab nb kb ∧ vl = .slice al nl kl ∧ nb ≤ 12 ∧ nl ≤ 12 ∧ Hid (Pick cs (TJ.map (tenOf dm)) cb ((BT i).map (tenOf dm)) ∧ cb.length = nb ∧ Pick cs (TJ.map (tenOf dm)) cl ((LT i).map (tenOf dm)) ∧ cl.length = nl) ∧ Held w wr [aB (w.heap.size) 29 [.int .i64 k, .int .i64 p, .int .i64 n, .slice aV m cV, .slice aO op.length cO], aB (w.heap.size + 1) 32 [.slice none 0 0, .slice none 0 0, .slice none 0 0], aTs (.slice aA mj cA) cs (TJ.map (tenOf dm)), aR 32 3 (.slice ab nb kb) nb (cb.flatMap cells3), aR 32 3 (.slice al nl kl) nl (cl.flatMap cells3)]) (fun vb vl iv wr => mj - (RowKit.intOf iv).toNat)
   case atStart => exact ⟨0, 0, 0, 0, 0, none, none, [], [], Nat.zero_le _, rfl, rfl, rfl, Nat.zero_le _, Nat.zero_le _, Lib.hid (by rw [HB0.out.1, HB0.out.2]; exact ⟨Pick.nil _ _, rfl, Pick.nil _ _, rfl⟩), hH⟩
   case round =>
    clear hH
    obtain ⟨i, nb, nl, kb, kl, ab, al, cb, cl, hi, rfl, rfl, rfl, hnb, hnl, HPK, hH⟩ := hrel
    obtain ⟨wp0, rfl⟩ : ∃ q, q = wr := ⟨wr, rfl⟩
    by_cases hlt2 : i < mj
    ·
     obtain ⟨⟨tl, xs⟩, htj⟩ : ∃ t, TJ[i]? = some t := ⟨_, List.getElem?_eq_getElem (by rw [HMJ.out]; exact hlt2)⟩
     have HTQ := Lib.hid htj
     obtain ⟨bA, x1, x2, x3, haA, hcq, hu0, hu1, hu2, ho1, ho2, ho3⟩ := (hH.get (k := 2) rfl : OwnTs wp0 _ _ _).at (t := tenOf dm (tl, xs)) (by rw [List.getElem?_map, htj]; rfl)
     simp only [tenOf] at ho1 ho2 ho3
     obtain ⟨ax1, cx1, rfl, _, _⟩ := ho1.ints.val
     obtain ⟨ax2, cx2, rfl, _, _⟩ := ho2.ints.val
     obtain ⟨ax3, cx3, rfl, _, _⟩ := ho3.ints.val
     subst haA
     have HCQ := Lib.hid hcq
     have hTX : TenS wp0 (.agg #[.slice ax1 tl.length cx1, .slice ax2 (tl.map dm).length cx2, .slice ax3 (flat xs).length cx3]) tl (tl.map dm) (flat xs) := ⟨_, _, _, rfl, ho1.ints, ho2.ints, ho3.ints⟩
     obtain ⟨m2, hm2⟩ : ∃ q, (tl.map dm).length = q := ⟨_, rfl⟩
     obtain ⟨m3, hm3⟩ : ∃ q, (flat xs).length = q := ⟨_, rfl⟩
     rw [hm2, hm3] at hTX
     rw [hm2] at hu1; rw [hm3] at hu2
     have HCQ : Hid (cs[i]? = some (.slice ax1 tl.length cx1, .slice ax2 m2 cx2, .slice ax3 m3 cx3)) := Lib.hid (by rw [← hm2, ← hm3]; exact hcq)
     clear htj hcq ho1 ho2 ho3 hm2 hm3
     have q0_0 := hH.cl 0 0 rfl rfl; have q0_1 := hH.cl 0 1 rfl rfl; have q0_2 := hH.cl 0 2 rfl rfl; have q0_3 := hH.cl 0 3 rfl rfl; have q0_4 := hH.cl 0 4 rfl rfl; have l0_ := hH.bl 0 rfl; have q1_0 := hH.cl 1 0 rfl rfl; have q1_1 := hH.cl 1 1 rfl rfl; have q1_2 := hH.cl 1 2 rfl rfl; have l1_ := hH.bl 1 rfl
     go_upto_region 11 with fail
     clear q0_0 q0_1 q0_2 q0_3 q0_4 l0_ q1_0 q1_1 q1_2 l1_
     clear hu0 hu1 hu2
     have hB : Held w (wp0.alloc (.cells #[.slice ax1 tl.length cx1, .slice ax2 m2 cx2, .slice ax3 m3 cx3] 32)) [aB (w.heap.size) 29 [.int .i64 k, .int .i64 p, .int .i64 n, .slice aV m cV, .slice aO op.length cO], aB (w.heap.size + 1) 32 [.slice none 0 0, .slice none 0 0, .slice none 0 0], aTs (.slice (some ⟨bA, 0, none⟩) mj cA) cs (TJ.map (tenOf dm)), aR 32 3 (.slice ab nb kb) nb (cb.flatMap cells3), aR 32 3 (.slice al nl kl) nl (cl.flatMap cells3), aB (wp0.heap.size) 32 [.slice ax1 tl.length cx1, .slice ax2 m2 cx2, .slice ax3 m3 cx3]] := by
      have h := (hH.mores 1).addB 5 #[.slice ax1 tl.length cx1, .slice ax2 m2 cx2, .slice ax3 m3 cx3] 32
      exact h
     have hTXB : TenS (wp0.alloc (.cells #[.slice ax1 tl.length cx1, .slice ax2 m2 cx2, .slice ax3 m3 cx3] 32)) (.agg #[.slice ax1 tl.length cx1, .slice ax2 m2 cx2, .slice ax3 m3 cx3]) tl (tl.map dm) (flat xs) := hTX.ext ((Ext.refl _).alloc _)
     have hsz : (wp0.alloc (.cells #[.slice ax1 tl.length cx1, .slice ax2 m2 cx2, .slice ax3 m3 cx3] 32)).heap.size = wp0.heap.size + 1 := by simp
     generalize wp0.alloc (.cells #[.slice ax1 tl.length cx1, .slice ax2 m2 cx2, .slice ax3 m3 cx3] 32) = wn5 at hB hsz hTXB ⊢
     replace hH := hB; have HSZwn5 := Lib.hid hsz; clear hB hsz; replace hTX := hTXB; clear hTXB
     have q0_0 := hH.cl 0 0 rfl rfl; have q0_1 := hH.cl 0 1 rfl rfl; have q0_2 := hH.cl 0 2 rfl rfl; have q0_3 := hH.cl 0 3 rfl rfl; have q0_4 := hH.cl 0 4 rfl rfl; have l0_ := hH.bl 0 rfl; have q1_0 := hH.cl 1 0 rfl rfl; have q1_1 := hH.cl 1 1 rfl rfl; have q1_2 := hH.cl 1 2 rfl rfl; have l1_ := hH.bl 1 rfl; have q5_0 := hH.cl 5 0 rfl rfl; have q5_1 := hH.cl 5 1 rfl rfl; have q5_2 := hH.cl 5 2 rfl rfl; have l5_ := hH.bl 5 rfl
     go_wp2_with fail
     clear q0_0 q0_1 q0_2 q0_3 q0_4 l0_ q1_0 q1_1 q1_2 l1_ q5_0 q5_1 q5_2 l5_
     refine (axisOf_any _ tl (tl.map dm) (flat xs) x _ hTX).mono ?_; rintro ewn6 wn6 ⟨rfl, hwn6⟩
     replace hH : Held w wn6 [aB (w.heap.size) 29 [.int .i64 k, .int .i64 p, .int .i64 n, .slice aV m cV, .slice aO op.length cO], aB (w.heap.size + 1) 32 [.slice none 0 0, .slice none 0 0, .slice none 0 0], aTs (.slice (some ⟨bA, 0, none⟩) mj cA) cs (TJ.map (tenOf dm)), aR 32 3 (.slice ab nb kb) nb (cb.flatMap cells3), aR 32 3 (.slice al nl kl) nl (cl.flatMap cells3), aB (wp0.heap.size) 32 [.slice ax1 tl.length cx1, .slice ax2 m2 cx2, .slice ax3 m3 cx3]] := hH.grow hwn6
     replace hTX := hTX.ext hwn6
     clear hwn6
     by_cases hh : hasL tl x = true
     ·
      have HS := Lib.hid (HBY.out i _ HTQ.out hh)
      obtain ⟨q, hq⟩ : ∃ q : Nat, findL tl x = (q : Int) := ⟨(findL tl x).toNat, by have := (findL_pos hh).1; omega⟩
      rw [hq]; have hq0 : (0 : Int) ≤ (q : Int) := by omega
      have hnb2 : nb + 1 ≤ 12 := by have h1 := (HBL.out (i + 1)).1; rw [HS.out.1, List.length_append] at h1; have h2 := HPK.out.1.len; rw [List.length_map, HPK.out.2.1] at h2; simp at h1; omega
      clear hh hTX
      have q0_0 := hH.cl 0 0 rfl rfl; have q0_1 := hH.cl 0 1 rfl rfl; have q0_2 := hH.cl 0 2 rfl rfl; have q0_3 := hH.cl 0 3 rfl rfl; have q0_4 := hH.cl 0 4 rfl rfl; have l0_ := hH.bl 0 rfl; have q1_0 := hH.cl 1 0 rfl rfl; have q1_1 := hH.cl 1 1 rfl rfl; have q1_2 := hH.cl 1 2 rfl rfl; have l1_ := hH.bl 1 rfl; have q5_0 := hH.cl 5 0 rfl rfl; have q5_1 := hH.cl 5 1 rfl rfl; have q5_2 := hH.cl 5 2 rfl rfl; have l5_ := hH.bl 5 rfl
      go_wp2_with (at_builtin; refine wpList_app _ rfl _ _ 26 rfl _ _ rfl rfl _ (run_pushR3 _ (hH.grow ((Ext.refl _).alloc _)) (n := nb) (k := 3) rfl (row_one3 _ _ _ _ _) rfl rfl rfl (by omega)) ?_; rintro vp wp ⟨hHp, gp, rp⟩; obtain ⟨ap, cp, rfl, _, _⟩ := rp.val)
      go_roundw
      case rel => exact ⟨i + 1, nb + 1, nl, cp, kl, ap, al, cb ++ [(.slice ax1 tl.length cx1, .slice ax2 m2 cx2, .slice ax3 m3 cx3)], cl, by omega, by go_num, rfl, rfl, hnb2, hnl, Lib.hid (by rw [HS.out.1, HS.out.2, List.map_append]; exact ⟨(HPK.out.1.snoc (t := tenOf dm (tl, xs)) HCQ.out (by rw [List.getElem?_map, HTQ.out]; rfl)), by rw [List.length_append, HPK.out.2.1]; rfl, HPK.out.2.2.1, HPK.out.2.2.2⟩), by rw [List.flatMap_append]; exact hHp.sub (.cons_cons _ (.cons_cons _ (.cons_cons _ (.cons_cons _ (.cons_cons _ (.cons _ .slnil))))))⟩
      case measure => simp [RowKit.intOf]; omega
     ·
      have HS := Lib.hid (HBN.out i _ HTQ.out (eq_false_of_ne_true hh))
      rw [findL_neg (eq_false_of_ne_true hh)]
      have hnl2 : nl + 1 ≤ 12 := by have h1 := (HBL.out (i + 1)).2; rw [HS.out.2, List.length_append] at h1; have h2 := HPK.out.2.2.1.len; rw [List.length_map, HPK.out.2.2.2] at h2; simp at h1; omega
      clear hh hTX
      have q0_0 := hH.cl 0 0 rfl rfl; have q0_1 := hH.cl 0 1 rfl rfl; have q0_2 := hH.cl 0 2 rfl rfl; have q0_3 := hH.cl 0 3 rfl rfl; have q0_4 := hH.cl 0 4 rfl rfl; have l0_ := hH.bl 0 rfl; have q1_0 := hH.cl 1 0 rfl rfl; have q1_1 := hH.cl 1 1 rfl rfl; have q1_2 := hH.cl 1 2 rfl rfl; have l1_ := hH.bl 1 rfl; have q5_0 := hH.cl 5 0 rfl rfl; have q5_1 := hH.cl 5 1 rfl rfl; have q5_2 := hH.cl 5 2 rfl rfl; have l5_ := hH.bl 5 rfl
      go_wp2_with (at_builtin; refine wpList_app _ rfl _ _ 26 rfl _ _ rfl rfl _ (run_pushR3 _ (hH.grow ((Ext.refl _).alloc _)) (n := nl) (k := 4) rfl (row_one3 _ _ _ _ _) rfl rfl rfl (by omega)) ?_; rintro vp wp ⟨hHp, gp, rp⟩; obtain ⟨ap, cp, rfl, _, _⟩ := rp.val)
      go_roundw
      case rel => exact ⟨i + 1, nb, nl + 1, kb, cp, ab, ap, cb, cl ++ [(.slice ax1 tl.length cx1, .slice ax2 m2 cx2, .slice ax3 m3 cx3)], by omega, by go_num, rfl, rfl, hnb, hnl2, Lib.hid (by rw [HS.out.1, HS.out.2, List.map_append]; exact ⟨HPK.out.1, HPK.out.2.1, (HPK.out.2.2.1.snoc (t := tenOf dm (tl, xs)) HCQ.out (by rw [List.getElem?_map, HTQ.out]; rfl)), by rw [List.length_append, HPK.out.2.2.2]; rfl⟩), by rw [List.flatMap_append]; exact hHp.sub (.cons_cons _ (.cons_cons _ (.cons_cons _ (.cons_cons _ (.cons_cons _ (.cons _ .slnil))))))⟩
      case measure => simp [RowKit.intOf]; omega
    ·
     have hie : i = mj := by omega
     subst hie
     obtain ⟨mj, hmi⟩ : ∃ q, q = i := ⟨i, rfl⟩
     subst hmi
     obtain ⟨BU, hBU⟩ : ∃ q, bucketT TJ x = q := ⟨_, rfl⟩
     obtain ⟨LU, hLU⟩ : ∃ q, leftT TJ x = q := ⟨_, rfl⟩
     rw [HBE.out.1, HBE.out.2, hBU, hLU] at HPK
     have HBP : Hid (0 < BU.length) := Lib.hid (by rw [← hBU]; exact bucketT_pos HXO.out)
     have HBA : Hid (AllT dm U BU) := Lib.hid ⟨fun t ht => HEJ.out.1.ten t (by rw [← hBU] at ht; exact (List.mem_filter.1 ht).1), HEJ.out.1.uni, by have h := HPK.out.1.len; rw [List.length_map, HPK.out.2.1] at h; omega⟩
     obtain ⟨⟨JL, JX⟩, hJA⟩ : ∃ q, joinA HR.out dm BU = q := ⟨_, rfl⟩
     have HJI : Hid (IsT k p n dm U JL JX) := Lib.hid (by
      have h1 := HBP.out
      have h2 := HBA.out
      rcases BU with _ | ⟨b, l⟩
      · simp at h1
      · have h := (joinA_ok HR.out h2.uni (fun t ht => h2.ten t ht)).1
        rw [hJA] at h; exact h)
     have HJA := Lib.hid hJA
     have HNE : Hid ((ET (j + 1)).map (tenOf dm) = LU.map (tenOf dm) ++ [(keepL JL (cutL JL x), (keepL JL (cutL JL x)).map dm, flat (sumXs HR.out dm JL (cutL JL x) JX))]) := Lib.hid (by
      rw [HX.out.1, HTJ.out]
      unfold elimT sumO
      rw [hBU, hLU, hJA, List.map_append]; rfl)
     clear hJA hBU hLU
     have hjl12 : JL.length ≤ 12 := HJI.out.ax.rank
     have hRB : TensS wp0 (.slice ab nb kb) (BU.map (tenOf dm)) := ((HPK.out.1).rowT (hH.get (k := 2) rfl)).tensS (by
      have h := ownsRow_row (hH.get (k := 3) rfl)
      have e : (BU.map (tenOf dm)).length = nb := by rw [← HPK.out.1.len]; exact HPK.out.2.1
      rw [e]; exact h)
     have c_x := hH.ext.cell hcx; have q0_0 := hH.cl 0 0 rfl rfl; have q0_1 := hH.cl 0 1 rfl rfl; have q0_2 := hH.cl 0 2 rfl rfl; have q0_3 := hH.cl 0 3 rfl rfl; have q0_4 := hH.cl 0 4 rfl rfl; have l0_ := hH.bl 0 rfl; have q1_0 := hH.cl 1 0 rfl rfl; have q1_1 := hH.cl 1 1 rfl rfl; have q1_2 := hH.cl 1 2 rfl rfl; have l1_ := hH.bl 1 rfl
     go_wp2_with fail
     clear q0_0 q0_1 q0_2 q0_3 q0_4 l0_ q1_0 q1_1 q1_2 l1_
     clear c_x
     refine (joinAll_any HR.out HBA.out HBP.out _ _ hRB).mono ?_; rintro e15 w15 ⟨u15, rfl, hJT, h15⟩
     rw [HJA.out] at hJT; simp only at hJT
     replace hH := hH.grow h15; clear h15 hRB
     obtain ⟨j1x, j1y, j1z, j2x, j2y, j2z, j3x, j3y, j3z, rfl⟩ := hJT.shape
     have q0_0 := hH.cl 0 0 rfl rfl; have q0_1 := hH.cl 0 1 rfl rfl; have q0_2 := hH.cl 0 2 rfl rfl; have q0_3 := hH.cl 0 3 rfl rfl; have q0_4 := hH.cl 0 4 rfl rfl; have l0_ := hH.bl 0 rfl; have q1_0 := hH.cl 1 0 rfl rfl; have q1_1 := hH.cl 1 1 rfl rfl; have q1_2 := hH.cl 1 2 rfl rfl; have l1_ := hH.bl 1 rfl
     go_upto_region 16 with fail
     clear q0_0 q0_1 q0_2 q0_3 q0_4 l0_ q1_0 q1_1 q1_2 l1_
     have hB : Held w (w15.alloc (.cells #[.slice j1x j1y j1z, .slice j2x j2y j2z, .slice j3x j3y j3z] 32)) [aB (w.heap.size) 29 [.int .i64 k, .int .i64 p, .int .i64 n, .slice aV m cV, .slice aO op.length cO], aB (w.heap.size + 1) 32 [.slice none 0 0, .slice none 0 0, .slice none 0 0], aTs (.slice aA mj cA) cs (TJ.map (tenOf dm)), aR 32 3 (.slice ab nb kb) nb (cb.flatMap cells3), aR 32 3 (.slice al nl kl) nl (cl.flatMap cells3), aB (w15.heap.size) 32 [.slice j1x j1y j1z, .slice j2x j2y j2z, .slice j3x j3y j3z]] := by
      have h := (hH.mores 1).addB 5 #[.slice j1x j1y j1z, .slice j2x j2y j2z, .slice j3x j3y j3z] 32
      exact h
     have hJTB : TenS (w15.alloc (.cells #[.slice j1x j1y j1z, .slice j2x j2y j2z, .slice j3x j3y j3z] 32)) (.agg #[.slice j1x j1y j1z, .slice j2x j2y j2z, .slice j3x j3y j3z]) JL (JL.map dm) (flat JX) := hJT.ext ((Ext.refl _).alloc _)
     have hsz : (w15.alloc (.cells #[.slice j1x j1y j1z, .slice j2x j2y j2z, .slice j3x j3y j3z] 32)).heap.size = w15.heap.size + 1 := by simp
     generalize w15.alloc (.cells #[.slice j1x j1y j1z, .slice j2x j2y j2z, .slice j3x j3y j3z] 32) = wn7 at hB hsz hJTB ⊢
     replace hH := hB; have HSZwn7 := Lib.hid hsz; clear hB hsz; replace hJT := hJTB; clear hJTB
     have q0_0 := hH.cl 0 0 rfl rfl; have q0_1 := hH.cl 0 1 rfl rfl; have q0_2 := hH.cl 0 2 rfl rfl; have q0_3 := hH.cl 0 3 rfl rfl; have q0_4 := hH.cl 0 4 rfl rfl; have l0_ := hH.bl 0 rfl; have q1_0 := hH.cl 1 0 rfl rfl; have q1_1 := hH.cl 1 1 rfl rfl; have q1_2 := hH.cl 1 2 rfl rfl; have l1_ := hH.bl 1 rfl; have q5_0 := hH.cl 5 0 rfl rfl; have q5_1 := hH.cl 5 1 rfl rfl; have q5_2 := hH.cl 5 2 rfl rfl; have l5_ := hH.bl 5 rfl
     go_upto_region 18 with fail
     clear q0_0 q0_1 q0_2 q0_3 q0_4 l0_ q1_0 q1_1 q1_2 l1_ q5_0 q5_1 q5_2 l5_
     obtain ⟨wS, rfl⟩ : ∃ q, q = wn7 := ⟨_, rfl⟩
     have hEU : OrExt false wS wS := .inr (Ext.refl wS)
     replace hH := hH.mores 3
     replace hH : Held w wS [aB (w.heap.size) 29 [.int .i64 k, .int .i64 p, .int .i64 n, .slice aV m cV, .slice aO op.length cO], aB (w.heap.size + 1) 32 [.slice none 0 0, .slice none 0 0, .slice none 0 0], aTs (.slice aA mj cA) cs (TJ.map (tenOf dm)), aR 32 3 (.slice ab nb kb) nb (cb.flatMap cells3), aR 32 3 (.slice al nl kl) nl (cl.flatMap cells3), aB (w15.heap.size) 32 [.slice j1x j1y j1z, .slice j2x j2y j2z, .slice j3x j3y j3z], emp, emp, emp] := hH
     refine wp_region_steps ?Fa (fun b t wx => Held w wx [aB (w.heap.size) 29 [.int .i64 k, .int .i64 p, .int .i64 n, .slice aV m cV, .slice aO op.length cO], aB (w.heap.size + 1) 32 [.slice none 0 0, .slice none 0 0, .slice none 0 0], aTs (.slice aA mj cA) cs (TJ.map (tenOf dm)), aR 32 3 (.slice ab nb kb) nb (cb.flatMap cells3), (bif b 10 then aR 32 3 (t 10) (nl + 1) (cl.flatMap cells3 ++ partsOf (t 8)) else aR 32 3 (.slice al nl kl) nl (cl.flatMap cells3)), aB (w15.heap.size) 32 [.slice j1x j1y j1z, .slice j2x j2y j2z, .slice j3x j3y j3z], (bif b 7 then aI (t 7) (cutL JL x) else emp), (bif b 8 then aT (t 8) (keepL JL (cutL JL x)) ((keepL JL (cutL JL x)).map dm) (flat (sumXs HR.out dm JL (cutL JL x) JX)) else emp), (bif b 9 then aB (blkS (t 9)) 32 (partsOf (t 8)) else emp)] ∧ OrExt (b 10) wS wx ∧ (b 0 = true → t 0 = .slice al nl kl) ∧ (b 1 = true → t 1 = .pointer (some ⟨w.heap.size, 0, none⟩)) ∧ (b 2 = true → t 2 = .agg #[.int .i64 k, .int .i64 p, .int .i64 n]) ∧ (b 3 = true → t 3 = .agg #[.slice j1x j1y j1z, .slice j2x j2y j2z, .slice j3x j3y j3z]) ∧ (b 4 = true → t 4 = .pointer (some ⟨w15.heap.size, 0, none⟩)) ∧ (b 5 = true → t 5 = .slice j1x j1y j1z) ∧ (b 6 = true → t 6 = .int .i64 x) ∧ (b 7 = true → ∃ x c n, t 7 = .slice x n c) ∧ (b 8 = true → ∃ p1 n1 c1 p2 n2 c2 p3 n3 c3, t 8 = .agg #[.slice p1 n1 c1, .slice p2 n2 c2, .slice p3 n3 c3]) ∧ (b 9 = true → ∃ z, t 9 = .slice (some ⟨z, 0, none⟩) 1 1) ∧ (b 10 = true → ∃ a c, t 10 = .slice a (nl + 1) c) ∧ (b 11 = true → t 11 = t 10)) ?hFa (by kernel_rfl) (by kernel_rfl) ?hJa ?hSa ?hEa
     (case hFa => intro t; simp only [putAll, Act.put, List.setIfInBounds_toArray, List.set_cons_zero, List.set_cons_succ, Nat.reduceAdd, Nat.zero_add]; exact rfl)
     case hJa => exact ⟨hH.grow ((Ext.refl _).drew), hEU.ext ((Ext.refl _).drew), fun h => absurd h Bool.false_ne_true, fun h => absurd h Bool.false_ne_true, fun h => absurd h Bool.false_ne_true, fun h => absurd h Bool.false_ne_true, fun h => absurd h Bool.false_ne_true, fun h => absurd h Bool.false_ne_true, fun h => absurd h Bool.false_ne_true, fun h => absurd h Bool.false_ne_true, fun h => absurd h Bool.false_ne_true, fun h => absurd h Bool.false_ne_true, fun h => absurd h Bool.false_ne_true, fun h => absurd h Bool.false_ne_true⟩
     case hSa => as_aux_lemma =>
       refine AllSteps.cons (j := 1) rfl (fun b t wx hJ hb hd hcl Kc hK => ?_) ?_
       · obtain ⟨hH, hEU, v0, v1, v2, v3, v4, v5, v6, v7, v8, v9, v10, v11⟩ := hJ
         go_simp
         refine hK.out _ ?_ _ ?_ ?_; rotate_left 2
         · rfl
         exact ⟨hH, hEU, fun _ => rfl, v1, v2, v3, v4, v5, v6, v7, v8, v9, v10, v11⟩
       refine AllSteps.cons (j := 2) rfl (fun b t wx hJ hb hd hcl Kc hK => ?_) ?_
       · obtain ⟨hH, hEU, v0, v1, v2, v3, v4, v5, v6, v7, v8, v9, v10, v11⟩ := hJ
         go_simp
         refine hK.out _ ?_ _ ?_ ?_; rotate_left 2
         · rfl
         exact ⟨hH, hEU, v0, fun _ => rfl, v2, v3, v4, v5, v6, v7, v8, v9, v10, v11⟩
       refine AllSteps.cons (j := 3) rfl (fun b t wx hJ hb hd hcl Kc hK => ?_) ?_
       · obtain ⟨hH, hEU, v0, v1, v2, v3, v4, v5, v6, v7, v8, v9, v10, v11⟩ := hJ
         have d1 := hd.out 1 (by kernel_rfl); have r1 := v1 d1; have q0_0 := hH.cl 0 0 rfl rfl; have q0_1 := hH.cl 0 1 rfl rfl; have q0_2 := hH.cl 0 2 rfl rfl
         go_simp
         refine hK.out _ ?_ _ ?_ ?_; rotate_left 2
         · (try simp only [r1]); rfl
         exact ⟨hH, hEU, v0, v1, fun _ => rfl, v3, v4, v5, v6, v7, v8, v9, v10, v11⟩
       refine AllSteps.cons (j := 4) rfl (fun b t wx hJ hb hd hcl Kc hK => ?_) ?_
       · obtain ⟨hH, hEU, v0, v1, v2, v3, v4, v5, v6, v7, v8, v9, v10, v11⟩ := hJ
         have q5_0 := hH.cl 5 0 rfl rfl; have q5_1 := hH.cl 5 1 rfl rfl; have q5_2 := hH.cl 5 2 rfl rfl
         go_simp
         refine hK.out _ ?_ _ ?_ ?_; rotate_left 2
         · rfl
         exact ⟨hH, hEU, v0, v1, v2, fun _ => rfl, v4, v5, v6, v7, v8, v9, v10, v11⟩
       refine AllSteps.cons (j := 5) rfl (fun b t wx hJ hb hd hcl Kc hK => ?_) ?_
       · obtain ⟨hH, hEU, v0, v1, v2, v3, v4, v5, v6, v7, v8, v9, v10, v11⟩ := hJ
         go_simp
         refine hK.out _ ?_ _ ?_ ?_; rotate_left 2
         · rfl
         exact ⟨hH, hEU, v0, v1, v2, v3, fun _ => rfl, v5, v6, v7, v8, v9, v10, v11⟩
       refine AllSteps.cons (j := 6) rfl (fun b t wx hJ hb hd hcl Kc hK => ?_) ?_
       · obtain ⟨hH, hEU, v0, v1, v2, v3, v4, v5, v6, v7, v8, v9, v10, v11⟩ := hJ
         have d4 := hd.out 4 (by kernel_rfl); have r4 := v4 d4; have q5_0 := hH.cl 5 0 rfl rfl
         go_simp
         refine hK.out _ ?_ _ ?_ ?_; rotate_left 2
         · (try simp only [r4]); rfl
         exact ⟨hH, hEU, v0, v1, v2, v3, v4, fun _ => rfl, v6, v7, v8, v9, v10, v11⟩
       refine AllSteps.cons (j := 7) rfl (fun b t wx hJ hb hd hcl Kc hK => ?_) ?_
       · obtain ⟨hH, hEU, v0, v1, v2, v3, v4, v5, v6, v7, v8, v9, v10, v11⟩ := hJ
         go_simp
         refine hK.out _ ?_ _ ?_ ?_; rotate_left 2
         · rfl
         exact ⟨hH, hEU, v0, v1, v2, v3, v4, v5, fun _ => rfl, v7, v8, v9, v10, v11⟩
       refine AllSteps.cons (j := 8) rfl (fun b t wx hJ hb hd hcl Kc hK => ?_) ?_
       · obtain ⟨hH, hEU, v0, v1, v2, v3, v4, v5, v6, v7, v8, v9, v10, v11⟩ := hJ
         have d5 := hd.out 5 (by kernel_rfl); have d6 := hd.out 6 (by kernel_rfl)
         have n10 : b 10 = false := Bool.eq_false_iff.2 fun h => absurd (hcl.out 8 7 (by kernel_rfl) (hcl.out 10 8 (by kernel_rfl) (h))) (by rw [hb]; exact Bool.false_ne_true)
         have r5 := v5 d5; have r6 := v6 d6
         have hN := hH; (try simp only [hb, d5, d6, n10, cond_true, cond_false] at hN)
         go_simp
         go_at_call 122
         refine (withoutInt_any _ JL x _ ((hJT.ext (hEU.out n10)).valL) (by omega)).mono ?_; rintro e7 w7 ⟨v7, rfl, o7, h7⟩
         obtain ⟨x7, c7, rfl, _, _⟩ := o7.ints.val
         (try go_simp)
         refine hK.out _ ?_ _ ?_ ?_; rotate_left 2
         · (try simp only [r5, r6]); rfl
         exact ⟨by have hX := hN.addI 6 h7 o7 (Nat.le_refl _); simpa only [List.set_cons_zero, List.set_cons_succ, updB, updV, blkOf_mk, tup0_mk, partsOf3, blkS_mk, Nat.reduceBEq, cond_true, cond_false, hb, d5, d6, n10, r5, r6] using hX, hEU.ext h7, v0, v1, v2, v3, v4, v5, v6, fun _ => ⟨_, _, _, rfl⟩, v8, v9, v10, v11⟩
       refine AllSteps.cons (j := 9) rfl (fun b t wx hJ hb hd hcl Kc hK => ?_) ?_
       · obtain ⟨hH, hEU, v0, v1, v2, v3, v4, v5, v6, v7, v8, v9, v10, v11⟩ := hJ
         have d2 := hd.out 2 (by kernel_rfl); have d3 := hd.out 3 (by kernel_rfl); have d7 := hd.out 7 (by kernel_rfl)
         have n9 : b 9 = false := Bool.eq_false_iff.2 fun h => absurd (hcl.out 9 8 (by kernel_rfl) (h)) (by rw [hb]; exact Bool.false_ne_true)
         have n10 : b 10 = false := Bool.eq_false_iff.2 fun h => absurd (hcl.out 10 8 (by kernel_rfl) (h)) (by rw [hb]; exact Bool.false_ne_true)
         have r2 := v2 d2; have r3 := v3 d3; have r7 := v7 d7
         obtain ⟨x_7, c_7, n_7, r7⟩ := r7
         have hN := hH; (try simp only [hb, d2, d3, d7, n9, n10, cond_true, cond_false] at hN)
         go_simp
         go_at_call 33
         refine (sumLabels_any HR.out HJI.out (cutL JL x) _ _ _ (hJT.ext (hEU.out n10)) (by have h := hN.ints (k := 6) rfl; rw [r7] at h; exact h)).mono ?_; rintro e8 w8 ⟨v8, rfl, o8, h8⟩
         obtain ⟨pa1, na1, ca1, pa2, na2, ca2, pa3, na3, ca3, rfl⟩ := o8.shape
         (try go_simp)
         refine hK.out _ ?_ _ ?_ ?_; rotate_left 2
         · (try simp only [r2, r3, r7]); rfl
         exact ⟨by have hX := hN.addT 7 h8 o8 (Nat.le_refl _); simpa only [List.set_cons_zero, List.set_cons_succ, updB, updV, blkOf_mk, tup0_mk, partsOf3, blkS_mk, Nat.reduceBEq, cond_true, cond_false, hb, d2, d3, d7, n9, n10, r2, r3, r7] using hX, hEU.ext h8, v0, v1, v2, v3, v4, v5, v6, v7, fun _ => ⟨_, _, _, _, _, _, _, _, _, rfl⟩, v9, v10, v11⟩
       refine AllSteps.cons (j := 10) rfl (fun b t wx hJ hb hd hcl Kc hK => ?_) ?_
       · obtain ⟨hH, hEU, v0, v1, v2, v3, v4, v5, v6, v7, v8, v9, v10, v11⟩ := hJ
         have d8 := hd.out 8 (by kernel_rfl); have r8 := v8 d8
         obtain ⟨p1_8, n1_8, c1_8, p2_8, n2_8, c2_8, p3_8, n3_8, c3_8, r8⟩ := r8
         have hN := hH; (try simp only [hb, d8, cond_true, cond_false] at hN)
         have e8 := r8 -- d8
         go_simp
         refine hK.out _ ?_ _ ?_ ?_; rotate_left 2
         · (try simp only [r8]); rfl
         exact ⟨by have hX := hN.addB 8 #[.slice p1_8 n1_8 c1_8, .slice p2_8 n2_8 c2_8, .slice p3_8 n3_8 c3_8] 32; simpa only [List.set_cons_zero, List.set_cons_succ, updB, updV, blkOf_mk, tup0_mk, partsOf3, blkS_mk, Nat.reduceBEq, cond_true, cond_false, hb, d8, r8] using hX, hEU.ext ((Ext.refl _).alloc _), v0, v1, v2, v3, v4, v5, v6, v7, v8, fun _ => ⟨_, rfl⟩, v10, v11⟩
       refine AllSteps.cons (j := 11) rfl (fun b t wx hJ hb hd hcl Kc hK => ?_) ?_
       · obtain ⟨hH, hEU, v0, v1, v2, v3, v4, v5, v6, v7, v8, v9, v10, v11⟩ := hJ
         have d0 := hd.out 0 (by kernel_rfl); have d8 := hd.out 8 (by kernel_rfl); have d9 := hd.out 9 (by kernel_rfl)
         have n11 : b 11 = false := Bool.eq_false_iff.2 fun h => absurd (hcl.out 11 10 (by kernel_rfl) (h)) (by rw [hb]; exact Bool.false_ne_true)
         have r0 := v0 d0; have r8 := v8 d8; have r9 := v9 d9
         obtain ⟨p1_8, n1_8, c1_8, p2_8, n2_8, c2_8, p3_8, n3_8, c3_8, r8⟩ := r8
         obtain ⟨z_9, r9⟩ := r9
         have hN := hH; (try simp only [hb, d0, d8, d9, n11, cond_true, cond_false] at hN)
         simp only [r8, r9, blkS_mk, partsOf3] at hN -- d8 d9
         have e8 := r8 -- d8
         have hrow := row_blk3 (hN.blk (k := 8) rfl)
         refine step_app wx rfl _ _ 26 rfl (.slice al nl kl) (t 9) (by first | rfl | (go_simp; done)) (by first | rfl | (go_simp; done)) _ (run_pushR3 _ hN (n := nl) (k := 4) rfl (by rw [r9]; exact hrow) rfl rfl rfl (by omega)) ?_; rintro va wa ⟨hHa, ga, ra⟩
         obtain ⟨aa, ca, hva, _, _⟩ := ra.val; subst hva
         refine hK.out _ ?_ _ ?_ ?_; rotate_left 2
         · (try simp only [r0, r8, r9]); rfl
         exact ⟨by have hX := hHa; simpa only [List.set_cons_zero, List.set_cons_succ, updB, updV, blkOf_mk, tup0_mk, partsOf3, blkS_mk, Nat.reduceBEq, cond_true, cond_false, hb, d0, d8, d9, n11, r0, r8, r9] using hX, (.inl rfl), v0, v1, v2, v3, v4, v5, v6, v7, v8, v9, fun _ => ⟨_, _, rfl⟩, fun h => absurd (show b 11 = true from h) (by rw [n11]; exact Bool.false_ne_true)⟩
       refine AllSteps.cons (j := 12) rfl (fun b t wx hJ hb hd hcl Kc hK => ?_) ?_
       · obtain ⟨hH, hEU, v0, v1, v2, v3, v4, v5, v6, v7, v8, v9, v10, v11⟩ := hJ
         have d0 := hd.out 0 (by kernel_rfl); have d1 := hd.out 1 (by kernel_rfl); have d2 := hd.out 2 (by kernel_rfl); have d3 := hd.out 3 (by kernel_rfl); have d4 := hd.out 4 (by kernel_rfl); have d5 := hd.out 5 (by kernel_rfl); have d6 := hd.out 6 (by kernel_rfl); have d7 := hd.out 7 (by kernel_rfl); have d8 := hd.out 8 (by kernel_rfl); have d9 := hd.out 9 (by kernel_rfl); have d10 := hd.out 10 (by kernel_rfl); have r0 := v0 d0; have r1 := v1 d1; have r2 := v2 d2; have r3 := v3 d3; have r4 := v4 d4; have r5 := v5 d5; have r6 := v6 d6; have r7 := v7 d7; have r8 := v8 d8; have r9 := v9 d9; have r10 := v10 d10
         obtain ⟨x_7, c_7, n_7, r7⟩ := r7
         obtain ⟨p1_8, n1_8, c1_8, p2_8, n2_8, c2_8, p3_8, n3_8, c3_8, r8⟩ := r8
         obtain ⟨z_9, r9⟩ := r9
         obtain ⟨a_10, c_10, r10⟩ := r10
         go_simp
         refine hK.out _ ?_ _ ?_ ?_; rotate_left 2
         · (try simp only [r0, r1, r2, r3, r4, r5, r6, r7, r8, r9, r10]); rfl
         exact ⟨hH, hEU, v0, v1, v2, v3, v4, v5, v6, v7, v8, v9, v10, fun _ => (by first | rfl | exact r10.symm)⟩
       exact AllSteps.nil
     case hEa =>
      intro b t wa hJ hall
      obtain ⟨hHa, hEUa, v0, v1, v2, v3, v4, v5, v6, v7, v8, v9, v10, v11⟩ := hJ
      have a0 := hall 0 (by decide); have a1 := hall 1 (by decide); have a2 := hall 2 (by decide); have a3 := hall 3 (by decide); have a4 := hall 4 (by decide); have a5 := hall 5 (by decide); have a6 := hall 6 (by decide); have a7 := hall 7 (by decide); have a8 := hall 8 (by decide); have a9 := hall 9 (by decide); have a10 := hall 10 (by decide); have a11 := hall 11 (by decide)
      (try simp only [a0, a1, a2, a3, a4, a5, a6, a7, a8, a9, a10, a11, cond_true] at hHa)
      (try simp only [a0, a1, a2, a3, a4, a5, a6, a7, a8, a9, a10, a11, cond_true] at hEUa)
      replace v0 := v0 a0; replace v1 := v1 a1; replace v2 := v2 a2; replace v3 := v3 a3; replace v4 := v4 a4; replace v5 := v5 a5; replace v6 := v6 a6; replace v7 := v7 a7; replace v8 := v8 a8; replace v9 := v9 a9; replace v10 := v10 a10; replace v11 := v11 a11
      clear hall a0 a1 a2 a3 a4 a5 a6 a7 a8 a9 a10 a11
      generalize t 11 = x11 at hHa v11 ⊢; generalize t 10 = x10 at hHa v10 v11 ⊢; generalize t 9 = x9 at hHa v9 ⊢; generalize t 8 = x8 at hHa v8 ⊢; generalize t 7 = x7 at hHa v7 ⊢; generalize t 6 = x6 at hHa v6 ⊢; generalize t 5 = x5 at hHa v5 ⊢; generalize t 4 = x4 at hHa v4 ⊢; generalize t 3 = x3 at hHa v3 ⊢; generalize t 2 = x2 at hHa v2 ⊢; generalize t 1 = x1 at hHa v1 ⊢; generalize t 0 = x0 at hHa v0 ⊢; subst v0; subst v1; subst v2; subst v3; subst v4; subst v5; subst v6
      obtain ⟨xa7, ca7, na7, rfl⟩ := v7
      obtain ⟨p1a8, n1a8, c1a8, p2a8, n2a8, c2a8, p3a8, n3a8, c3a8, rfl⟩ := v8
      obtain ⟨za9, rfl⟩ := v9
      obtain ⟨aa10, ca10, rfl⟩ := v10
      subst v11
      simp only [blkOf_mk, tup0_mk, partsOf3, blkS_mk] at hHa
      clear b
      replace hH := hHa; clear hHa
      replace hH : Held w wa [aB (w.heap.size) 29 [.int .i64 k, .int .i64 p, .int .i64 n, .slice aV m cV, .slice aO op.length cO], aB (w.heap.size + 1) 32 [.slice none 0 0, .slice none 0 0, .slice none 0 0], aTs (.slice aA mj cA) cs (TJ.map (tenOf dm)), aR 32 3 (.slice ab nb kb) nb (cb.flatMap cells3), aR 32 3 (.slice aa10 (nl + 1) ca10) (nl + 1) (cl.flatMap cells3 ++ [.slice p1a8 n1a8 c1a8, .slice p2a8 n2a8 c2a8, .slice p3a8 n3a8 c3a8]), aB (w15.heap.size) 32 [.slice j1x j1y j1z, .slice j2x j2y j2z, .slice j3x j3y j3z], aI (.slice xa7 na7 ca7) (cutL JL x), aT (.agg #[.slice p1a8 n1a8 c1a8, .slice p2a8 n2a8 c2a8, .slice p3a8 n3a8 c3a8]) (keepL JL (cutL JL x)) ((keepL JL (cutL JL x)).map dm) (flat (sumXs HR.out dm JL (cutL JL x) JX)), aB za9 32 [.slice p1a8 n1a8 c1a8, .slice p2a8 n2a8 c2a8, .slice p3a8 n3a8 c3a8]] := hH
      clear hEUa hJT
      have hRL := HPK.out.2.2.1.rowT (hH.get (k := 2) rfl)
      have hLN : (LU.map (tenOf dm)).length = nl := by rw [← HPK.out.2.2.1.len]; exact HPK.out.2.2.2
      have hM := hH.regrowT (k1 := 2) (k2 := 4) (k3 := 7) rfl rfl rfl (by decide) (by decide) (by decide) hLN hRL
      rw [← HNE.out] at hM
      clear hRL hLN
      go_wp2_with fail
      go_roundw
      case rel => exact ⟨j + 1, cl ++ [(.slice p1a8 n1a8 c1a8, .slice p2a8 n2a8 c2a8, .slice p3a8 n3a8 c3a8)], by omega, by go_num, hM.sub (.cons_cons _ (.cons_cons _ (.cons_cons _ (.cons _ (.cons _ (.cons _ (.cons _ (.cons _ (.cons _ .slnil)))))))))⟩
      case measure => simp [RowKit.intOf]; omega
  ·
   have hje : j = l.length := by omega
   have HFI : Hid (AllT dm U ((([], [(rig HR.out).one]) : NT k p n) :: TJ)) := Lib.hid ⟨fun t ht => by
    rcases List.mem_cons.1 ht with rfl | ht
    · exact (joinAllT_ok HR.out HEJ.out.1.uni ([] : List (NT k p n)) (fun t h => by cases h)).1
    · exact HEJ.out.1.ten t ht, HEJ.out.1.uni, by rw [List.length_cons, HMJ.out]; omega⟩
   obtain ⟨⟨FL, FX⟩, hFA⟩ : ∃ q, joinA HR.out dm ((([], [(rig HR.out).one]) : NT k p n) :: TJ) = q := ⟨_, rfl⟩
   have HFA := Lib.hid hFA
   have HFT : Hid (IsT k p n dm U FL FX ∧ (∀ y ∈ op, y ∈ FL) ∧ finXs HR.out dm FL op FX = netXs HR.out dm ts op) := Lib.hid (by
    have e : joinAllT HR.out dm TJ = (FL, FX) := hFA
    have h1 := (joinAllT_ok HR.out HEJ.out.1.uni TJ HEJ.out.1.ten).1
    have h2 := fun y (hy : y ∈ op) => joinAllT_lab HR.out HEJ.out.1.uni HEJ.out.1.ten (HEJ.out.1.occ y hy)
    have h3 := fin_all HR.out HEJ.out.1
    rw [e] at h1 h2 h3
    exact ⟨h1, h2, h3.trans HEJ.out.2.1⟩)
   have HRL : Hid ([(([] : List Int), ([] : List Int), oneL k p n)] ++ TJ.map (tenOf dm) = ((([], [(rig HR.out).one]) : NT k p n) :: TJ).map (tenOf dm)) := Lib.hid (by
    rw [List.map_cons]
    show _ = ([], [], flat [(rig HR.out).one]) :: _
    rw [flat_one]; rfl)
   clear hFA
   have q0_0 := hH.cl 0 0 rfl rfl; have q0_1 := hH.cl 0 1 rfl rfl; have q0_2 := hH.cl 0 2 rfl rfl; have q0_3 := hH.cl 0 3 rfl rfl; have q0_4 := hH.cl 0 4 rfl rfl; have l0_ := hH.bl 0 rfl; have q1_0 := hH.cl 1 0 rfl rfl; have q1_1 := hH.cl 1 1 rfl rfl; have q1_2 := hH.cl 1 2 rfl rfl; have l1_ := hH.bl 1 rfl
   go_upto_region 20 with fail
   clear q0_0 q0_1 q0_2 q0_3 q0_4 l0_ q1_0 q1_1 q1_2 l1_
   clear hlt hje hj
   replace hH := hH.mores 3
   replace hH : Held w wq [aB (w.heap.size) 29 [.int .i64 k, .int .i64 p, .int .i64 n, .slice aV m cV, .slice aO op.length cO], aB (w.heap.size + 1) 32 [.slice none 0 0, .slice none 0 0, .slice none 0 0], aTs (.slice aA mj cA) cs (TJ.map (tenOf dm)), emp, emp, emp] := hH
   refine wp_region_steps ?Ff (fun b t wx => Held w wx [aB (w.heap.size) 29 [.int .i64 k, .int .i64 p, .int .i64 n, .slice aV m cV, .slice aO op.length cO], aB (w.heap.size + 1) 32 [.slice none 0 0, .slice none 0 0, .slice none 0 0], (bif b 7 then emp else aTs (.slice aA mj cA) cs (TJ.map (tenOf dm))), (bif b 7 then aTs (t 7) ([cel3 (t 4)] ++ cs) ([(([] : List Int), ([] : List Int), oneL k p n)] ++ TJ.map (tenOf dm)) else (bif b 5 then aTs (t 5) [cel3 (t 4)] [(([] : List Int), ([] : List Int), oneL k p n)] else (bif b 4 then aT (t 4) [] [] (oneL k p n) else emp))), emp, (bif b 13 then aB (blkOf (t 12)) 32 (partsOf (t 10)) else (bif b 12 then aB (blkOf (t 12)) 32 [.slice none 0 0, .slice none 0 0, .slice none 0 0] else emp))] ∧ (b 8 = true → TenS wx (tup0 (t 8)) FL (FL.map dm) (flat FX)) ∧ (b 0 = true → t 0 = .pointer (some ⟨w.heap.size, 0, none⟩)) ∧ (b 1 = true → t 1 = .agg #[.int .i64 k, .int .i64 p, .int .i64 n]) ∧ (b 2 = true → t 2 = .pointer (some ⟨w.heap.size, 0, none⟩)) ∧ (b 3 = true → t 3 = .agg #[.int .i64 k, .int .i64 p, .int .i64 n]) ∧ (b 4 = true → ∃ p1 n1 c1 p2 n2 c2 p3 n3 c3, t 4 = .agg #[.slice p1 n1 c1, .slice p2 n2 c2, .slice p3 n3 c3]) ∧ (b 5 = true → ∃ z, t 5 = .slice (some ⟨z, 0, none⟩) 1 1) ∧ (b 6 = true → t 6 = .slice aA mj cA) ∧ (b 7 = true → ∃ a c n, t 7 = .slice a n c) ∧ (b 8 = true → ∃ p1 n1 c1 p2 n2 c2 p3 n3 c3, t 8 = .tuple #[.agg #[.slice p1 n1 c1, .slice p2 n2 c2, .slice p3 n3 c3], .bool true]) ∧ (b 9 = true → t 9 = t 8) ∧ (b 10 = true → t 10 = tup0 (t 8)) ∧ (b 11 = true → t 11 = .bool true) ∧ (b 12 = true → ∃ q, t 12 = .pointer (some ⟨q, 0, none⟩)) ∧ (b 14 = true → t 14 = .bool true)) ?hFf (by kernel_rfl) (by kernel_rfl) ?hJf ?hSf ?hEf
   (case hFf => intro t; simp only [putAll, Act.put, List.setIfInBounds_toArray, List.set_cons_zero, List.set_cons_succ, Nat.reduceAdd, Nat.zero_add]; exact rfl)
   case hJf => exact ⟨hH.grow ((Ext.refl _).drew), fun h => absurd h Bool.false_ne_true, fun h => absurd h Bool.false_ne_true, fun h => absurd h Bool.false_ne_true, fun h => absurd h Bool.false_ne_true, fun h => absurd h Bool.false_ne_true, fun h => absurd h Bool.false_ne_true, fun h => absurd h Bool.false_ne_true, fun h => absurd h Bool.false_ne_true, fun h => absurd h Bool.false_ne_true, fun h => absurd h Bool.false_ne_true, fun h => absurd h Bool.false_ne_true, fun h => absurd h Bool.false_ne_true, fun h => absurd h Bool.false_ne_true, fun h => absurd h Bool.false_ne_true, fun h => absurd h Bool.false_ne_true⟩
   case hSf => as_aux_lemma =>
     refine AllSteps.cons (j := 1) rfl (fun b t wx hJ hb hd hcl Kc hK => ?_) ?_
     · obtain ⟨hH, hJU, v0, v1, v2, v3, v4, v5, v6, v7, v8, v9, v10, v11, v12, v14⟩ := hJ
       go_simp
       refine hK.out _ ?_ _ ?_ ?_; rotate_left 2
       · rfl
       exact ⟨hH, hJU, fun _ => rfl, v1, v2, v3, v4, v5, v6, v7, v8, v9, v10, v11, v12, v14⟩
     refine AllSteps.cons (j := 2) rfl (fun b t wx hJ hb hd hcl Kc hK => ?_) ?_
     · obtain ⟨hH, hJU, v0, v1, v2, v3, v4, v5, v6, v7, v8, v9, v10, v11, v12, v14⟩ := hJ
       have d0 := hd.out 0 (by kernel_rfl); have r0 := v0 d0; have q0_0 := hH.cl 0 0 rfl rfl; have q0_1 := hH.cl 0 1 rfl rfl; have q0_2 := hH.cl 0 2 rfl rfl
       go_simp
       refine hK.out _ ?_ _ ?_ ?_; rotate_left 2
       · (try simp only [r0]); rfl
       exact ⟨hH, hJU, v0, fun _ => rfl, v2, v3, v4, v5, v6, v7, v8, v9, v10, v11, v12, v14⟩
     refine AllSteps.cons (j := 3) rfl (fun b t wx hJ hb hd hcl Kc hK => ?_) ?_
     · obtain ⟨hH, hJU, v0, v1, v2, v3, v4, v5, v6, v7, v8, v9, v10, v11, v12, v14⟩ := hJ
       go_simp
       refine hK.out _ ?_ _ ?_ ?_; rotate_left 2
       · rfl
       exact ⟨hH, hJU, v0, v1, fun _ => rfl, v3, v4, v5, v6, v7, v8, v9, v10, v11, v12, v14⟩
     refine AllSteps.cons (j := 4) rfl (fun b t wx hJ hb hd hcl Kc hK => ?_) ?_
     · obtain ⟨hH, hJU, v0, v1, v2, v3, v4, v5, v6, v7, v8, v9, v10, v11, v12, v14⟩ := hJ
       have d2 := hd.out 2 (by kernel_rfl); have r2 := v2 d2; have q0_0 := hH.cl 0 0 rfl rfl; have q0_1 := hH.cl 0 1 rfl rfl; have q0_2 := hH.cl 0 2 rfl rfl
       go_simp
       refine hK.out _ ?_ _ ?_ ?_; rotate_left 2
       · (try simp only [r2]); rfl
       exact ⟨hH, hJU, v0, v1, v2, fun _ => rfl, v4, v5, v6, v7, v8, v9, v10, v11, v12, v14⟩
     refine AllSteps.cons (j := 5) rfl (fun b t wx hJ hb hd hcl Kc hK => ?_) ?_
     · obtain ⟨hH, hJU, v0, v1, v2, v3, v4, v5, v6, v7, v8, v9, v10, v11, v12, v14⟩ := hJ
       have d3 := hd.out 3 (by kernel_rfl)
       have n5 : b 5 = false := Bool.eq_false_iff.2 fun h => absurd (hcl.out 5 4 (by kernel_rfl) (h)) (by rw [hb]; exact Bool.false_ne_true)
       have n7 : b 7 = false := Bool.eq_false_iff.2 fun h => absurd (hcl.out 7 4 (by kernel_rfl) (h)) (by rw [hb]; exact Bool.false_ne_true)
       have n8 : b 8 = false := Bool.eq_false_iff.2 fun h => absurd (hcl.out 7 4 (by kernel_rfl) (hcl.out 8 7 (by kernel_rfl) (h))) (by rw [hb]; exact Bool.false_ne_true)
       have r3 := v3 d3
       have hN := hH; (try simp only [hb, d3, n5, n7, n8, cond_true, cond_false] at hN)
       go_simp
       go_at_call 114
       refine (scalarOne_any HR.out _).mono ?_; rintro e4 w4 ⟨v4, rfl, o4, h4⟩
       obtain ⟨pa1, na1, ca1, pa2, na2, ca2, pa3, na3, ca3, rfl⟩ := o4.shape
       (try go_simp)
       skip -- n8 .
       refine hK.out _ ?_ _ ?_ ?_; rotate_left 2
       · (try simp only [r3]); rfl
       exact ⟨by have hX := hN.addT 3 h4 o4 (Nat.le_refl _); simpa only [List.set_cons_zero, List.set_cons_succ, updB, updV, blkOf_mk, tup0_mk, partsOf3, cel3_mk, Nat.reduceBEq, cond_true, cond_false, hb, d3, n5, n7, n8, r3] using hX, (fun h => absurd (show b 8 = true from h) (by rw [n8]; exact Bool.false_ne_true)), v0, v1, v2, v3, fun _ => ⟨_, _, _, _, _, _, _, _, _, rfl⟩, v5, v6, v7, v8, v9, v10, v11, v12, v14⟩
     refine AllSteps.cons (j := 6) rfl (fun b t wx hJ hb hd hcl Kc hK => ?_) ?_
     · obtain ⟨hH, hJU, v0, v1, v2, v3, v4, v5, v6, v7, v8, v9, v10, v11, v12, v14⟩ := hJ
       have d4 := hd.out 4 (by kernel_rfl)
       have n7 : b 7 = false := Bool.eq_false_iff.2 fun h => absurd (hcl.out 7 5 (by kernel_rfl) (h)) (by rw [hb]; exact Bool.false_ne_true)
       have n8 : b 8 = false := Bool.eq_false_iff.2 fun h => absurd (hcl.out 7 5 (by kernel_rfl) (hcl.out 8 7 (by kernel_rfl) (h))) (by rw [hb]; exact Bool.false_ne_true)
       have r4 := v4 d4
       obtain ⟨p1_4, n1_4, c1_4, p2_4, n2_4, c2_4, p3_4, n3_4, c3_4, r4⟩ := r4
       have hN := hH; (try simp only [hb, d4, n7, n8, cond_true, cond_false] at hN)
       have e4 := r4 -- d4
       rw [r4] at hN
       go_simp
       skip -- n8 .
       refine hK.out _ ?_ _ ?_ ?_; rotate_left 2
       · (try simp only [r4]); rfl
       exact ⟨by have hX := hN.builtTs (k1 := 3) rfl; simpa only [List.set_cons_zero, List.set_cons_succ, updB, updV, blkOf_mk, tup0_mk, partsOf3, cel3_mk, Nat.reduceBEq, cond_true, cond_false, hb, d4, n7, n8, r4] using hX, (fun h => absurd (show b 8 = true from h) (by rw [n8]; exact Bool.false_ne_true)), v0, v1, v2, v3, v4, fun _ => ⟨_, rfl⟩, v6, v7, v8, v9, v10, v11, v12, v14⟩
     refine AllSteps.cons (j := 7) rfl (fun b t wx hJ hb hd hcl Kc hK => ?_) ?_
     · obtain ⟨hH, hJU, v0, v1, v2, v3, v4, v5, v6, v7, v8, v9, v10, v11, v12, v14⟩ := hJ
       go_simp
       refine hK.out _ ?_ _ ?_ ?_; rotate_left 2
       · rfl
       exact ⟨hH, hJU, v0, v1, v2, v3, v4, v5, fun _ => rfl, v7, v8, v9, v10, v11, v12, v14⟩
     refine AllSteps.cons (j := 8) rfl (fun b t wx hJ hb hd hcl Kc hK => ?_) ?_
     · obtain ⟨hH, hJU, v0, v1, v2, v3, v4, v5, v6, v7, v8, v9, v10, v11, v12, v14⟩ := hJ
       have d4 := hd.out 4 (by kernel_rfl); have d5 := hd.out 5 (by kernel_rfl); have d6 := hd.out 6 (by kernel_rfl)
       have n8 : b 8 = false := Bool.eq_false_iff.2 fun h => absurd (hcl.out 8 7 (by kernel_rfl) (h)) (by rw [hb]; exact Bool.false_ne_true)
       have r4 := v4 d4; have r5 := v5 d5; have r6 := v6 d6
       obtain ⟨p1_4, n1_4, c1_4, p2_4, n2_4, c2_4, p3_4, n3_4, c3_4, r4⟩ := r4
       obtain ⟨z_5, r5⟩ := r5
       have hN := hH; (try simp only [hb, d4, d5, d6, n8, cond_true, cond_false] at hN)
       rw [r4] at hN -- d4 d5
       refine step_app wx rfl _ _ 26 rfl (t 5) (.slice aA mj cA) (by first | rfl | (go_simp; done)) (by first | rfl | (go_simp; done)) _ (run_pushTs _ hN (k1 := 3) (k2 := 2) rfl rfl (by decide) (by rw [List.length_map, HMJ.out]; simp; omega)) ?_; rintro va wa ⟨hHa, ga⟩
       obtain ⟨aa, ca, hva, _, _⟩ := (hHa.tensS (k := 3) rfl).val; subst hva
       skip -- n8 .
       refine hK.out _ ?_ _ ?_ ?_; rotate_left 2
       · (try simp only [r4, r5, r6]); rfl
       exact ⟨by have hX := hHa; simpa only [List.set_cons_zero, List.set_cons_succ, updB, updV, blkOf_mk, tup0_mk, partsOf3, cel3_mk, Nat.reduceBEq, cond_true, cond_false, hb, d4, d5, d6, n8, r4, r5, r6] using hX, (fun h => absurd (show b 8 = true from h) (by rw [n8]; exact Bool.false_ne_true)), v0, v1, v2, v3, v4, v5, v6, fun _ => ⟨_, _, _, rfl⟩, v8, v9, v10, v11, v12, v14⟩
     refine AllSteps.cons (j := 9) rfl (fun b t wx hJ hb hd hcl Kc hK => ?_) ?_
     · obtain ⟨hH, hJU, v0, v1, v2, v3, v4, v5, v6, v7, v8, v9, v10, v11, v12, v14⟩ := hJ
       have d1 := hd.out 1 (by kernel_rfl); have d4 := hcl.out 7 4 (by kernel_rfl) (hd.out 7 (by kernel_rfl)); have d5 := hcl.out 7 5 (by kernel_rfl) (hd.out 7 (by kernel_rfl)); have d7 := hd.out 7 (by kernel_rfl)
       have n9 : b 9 = false := Bool.eq_false_iff.2 fun h => absurd (hcl.out 9 8 (by kernel_rfl) (h)) (by rw [hb]; exact Bool.false_ne_true)
       have n10 : b 10 = false := Bool.eq_false_iff.2 fun h => absurd (hcl.out 9 8 (by kernel_rfl) (hcl.out 10 9 (by kernel_rfl) (h))) (by rw [hb]; exact Bool.false_ne_true)
       have r1 := v1 d1; have r4 := v4 d4; have r5 := v5 d5; have r7 := v7 d7
       obtain ⟨p1_4, n1_4, c1_4, p2_4, n2_4, c2_4, p3_4, n3_4, c3_4, r4⟩ := r4
       obtain ⟨z_5, r5⟩ := r5
       obtain ⟨a_7, c_7, n_7, r7⟩ := r7
       have hN := hH; (try simp only [hb, d1, d4, d5, d7, n9, n10, cond_true, cond_false] at hN)
       go_simp
       go_at_call 156
       refine (joinAll_any HR.out HFI.out (by simp) _ _ (by have h := hN.tensS (k := 3) rfl; rw [HRL.out] at h; rw [r7] at h; exact h)).mono ?_; rintro e8 w8 ⟨v8, rfl, hT8, h8⟩
       rw [HFA.out] at hT8; simp only at hT8
       obtain ⟨pa1, na1, ca1, pa2, na2, ca2, pa3, na3, ca3, rfl⟩ := hT8.shape
       (try go_simp)
       refine hK.out _ ?_ _ ?_ ?_; rotate_left 2
       · (try simp only [r1, r4, r5, r7]); rfl
       exact ⟨by have hX := hH.grow h8; simpa only [List.set_cons_zero, List.set_cons_succ, updB, updV, blkOf_mk, tup0_mk, partsOf3, cel3_mk, Nat.reduceBEq, cond_true, cond_false, hb, d1, d4, d5, d7, n9, n10, r1, r4, r5, r7] using hX, (fun _ => hT8), v0, v1, v2, v3, v4, v5, v6, v7, fun _ => ⟨_, _, _, _, _, _, _, _, _, rfl⟩, fun h => absurd (show b 9 = true from h) (by rw [n9]; exact Bool.false_ne_true), fun h => absurd (show b 10 = true from h) (by rw [n10]; exact Bool.false_ne_true), v11, v12, v14⟩
     refine AllSteps.cons (j := 10) rfl (fun b t wx hJ hb hd hcl Kc hK => ?_) ?_
     · obtain ⟨hH, hJU, v0, v1, v2, v3, v4, v5, v6, v7, v8, v9, v10, v11, v12, v14⟩ := hJ
       have d8 := hd.out 8 (by kernel_rfl); have r8 := v8 d8
       obtain ⟨p1_8, n1_8, c1_8, p2_8, n2_8, c2_8, p3_8, n3_8, c3_8, r8⟩ := r8
       go_simp
       refine hK.out _ ?_ _ ?_ ?_; rotate_left 2
       · (try simp only [r8]); rfl
       exact ⟨hH, hJU, v0, v1, v2, v3, v4, v5, v6, v7, v8, fun _ => (by first | rfl | exact r8.symm), v10, v11, v12, v14⟩
     refine AllSteps.cons (j := 11) rfl (fun b t wx hJ hb hd hcl Kc hK => ?_) ?_
     · obtain ⟨hH, hJU, v0, v1, v2, v3, v4, v5, v6, v7, v8, v9, v10, v11, v12, v14⟩ := hJ
       have d8 := hcl.out 9 8 (by kernel_rfl) (hd.out 9 (by kernel_rfl)); have d9 := hd.out 9 (by kernel_rfl)
       have n13 : b 13 = false := Bool.eq_false_iff.2 fun h => absurd (hcl.out 13 10 (by kernel_rfl) (h)) (by rw [hb]; exact Bool.false_ne_true)
       have r8 := v8 d8; have r9 := v9 d9
       obtain ⟨p1_8, n1_8, c1_8, p2_8, n2_8, c2_8, p3_8, n3_8, c3_8, r8⟩ := r8
       have hN := hH; (try simp only [hb, d8, d9, n13, cond_true, cond_false] at hN)
       have e8 := r8 -- d8
       go_simp
       refine hK.out _ ?_ _ ?_ ?_; rotate_left 2
       · (try simp only [r8, r9]); rfl
       exact ⟨by have hX := hN; simpa only [List.set_cons_zero, List.set_cons_succ, updB, updV, blkOf_mk, tup0_mk, partsOf3, cel3_mk, Nat.reduceBEq, cond_true, cond_false, hb, d8, d9, n13, r8, r9] using hX, hJU, v0, v1, v2, v3, v4, v5, v6, v7, v8, v9, fun _ => (by show _ = tup0 (t 8); rw [r8]; rfl), v11, v12, v14⟩
     refine AllSteps.cons (j := 12) rfl (fun b t wx hJ hb hd hcl Kc hK => ?_) ?_
     · obtain ⟨hH, hJU, v0, v1, v2, v3, v4, v5, v6, v7, v8, v9, v10, v11, v12, v14⟩ := hJ
       have d8 := hcl.out 9 8 (by kernel_rfl) (hd.out 9 (by kernel_rfl)); have d9 := hd.out 9 (by kernel_rfl); have r8 := v8 d8; have r9 := v9 d9
       obtain ⟨p1_8, n1_8, c1_8, p2_8, n2_8, c2_8, p3_8, n3_8, c3_8, r8⟩ := r8
       have e8 := r8 -- d8
       go_simp
       refine hK.out _ ?_ _ ?_ ?_; rotate_left 2
       · (try simp only [r8, r9]); rfl
       exact ⟨hH, hJU, v0, v1, v2, v3, v4, v5, v6, v7, v8, v9, v10, fun _ => rfl, v12, v14⟩
     refine AllSteps.cons (j := 13) rfl (fun b t wx hJ hb hd hcl Kc hK => ?_) ?_
     · obtain ⟨hH, hJU, v0, v1, v2, v3, v4, v5, v6, v7, v8, v9, v10, v11, v12, v14⟩ := hJ
       have n13 : b 13 = false := Bool.eq_false_iff.2 fun h => absurd (hcl.out 13 12 (by kernel_rfl) (h)) (by rw [hb]; exact Bool.false_ne_true)
       have hN := hH; (try simp only [hb, n13, cond_true, cond_false] at hN)
       go_simp
       refine hK.out _ ?_ _ ?_ ?_; rotate_left 2
       · rfl
       exact ⟨by have hX := hN.addB 5 #[.slice none 0 0, .slice none 0 0, .slice none 0 0] 32; simpa only [List.set_cons_zero, List.set_cons_succ, updB, updV, blkOf_mk, tup0_mk, partsOf3, cel3_mk, Nat.reduceBEq, cond_true, cond_false, hb, n13] using hX, (fun h => (hJU h).ext ((Ext.refl _).alloc _)), v0, v1, v2, v3, v4, v5, v6, v7, v8, v9, v10, v11, fun _ => ⟨_, rfl⟩, v14⟩
     refine AllSteps.cons (j := 14) rfl (fun b t wx hJ hb hd hcl Kc hK => ?_) ?_
     · obtain ⟨hH, hJU, v0, v1, v2, v3, v4, v5, v6, v7, v8, v9, v10, v11, v12, v14⟩ := hJ
       have d0 := hd.out 0 (by kernel_rfl); have d1 := hd.out 1 (by kernel_rfl); have d2 := hd.out 2 (by kernel_rfl); have d3 := hd.out 3 (by kernel_rfl); have d4 := hd.out 4 (by kernel_rfl); have d5 := hd.out 5 (by kernel_rfl); have d6 := hd.out 6 (by kernel_rfl); have d7 := hd.out 7 (by kernel_rfl); have d8 := hd.out 8 (by kernel_rfl); have d9 := hd.out 9 (by kernel_rfl); have d10 := hd.out 10 (by kernel_rfl); have d12 := hd.out 12 (by kernel_rfl); have r0 := v0 d0; have r1 := v1 d1; have r2 := v2 d2; have r3 := v3 d3; have r4 := v4 d4; have r5 := v5 d5; have r6 := v6 d6; have r7 := v7 d7; have r8 := v8 d8; have r9 := v9 d9; have r10 := v10 d10; have r12 := v12 d12
       obtain ⟨p1_4, n1_4, c1_4, p2_4, n2_4, c2_4, p3_4, n3_4, c3_4, r4⟩ := r4
       obtain ⟨z_5, r5⟩ := r5
       obtain ⟨a_7, c_7, n_7, r7⟩ := r7
       obtain ⟨p1_8, n1_8, c1_8, p2_8, n2_8, c2_8, p3_8, n3_8, c3_8, r8⟩ := r8
       obtain ⟨q_12, r12⟩ := r12
       have hN := hH; (try simp only [hb, d0, d1, d2, d3, d4, d5, d6, d7, d8, d9, d10, d12, cond_true, cond_false] at hN)
       rw [r8, tup0_mk] at r10 -- d8
       simp only [r12, r10, blkOf_mk, tup0_mk, partsOf3] at hN
       have B := hN.blk (k := 5) rfl
       have f0 := B.free 0; have z0 := B.cell (j := 0) rfl
       have f1 := B.free 1; have z1 := B.cell (j := 1) rfl
       have f2 := B.free 2; have z2 := B.cell (j := 2) rfl
       have lB := B.lt; have hmk0 := @tup0_mk
       go_simp
       refine hK.out _ undef _ ?_ ?_; rotate_left 1
       · (try simp only [r0, r1, r2, r3, r4, r5, r6, r7, r8, r9, r10, r12]); rfl
       exact ⟨by have hX := hN.setB3' (k := 5) rfl (.slice p1_8 n1_8 c1_8) (.slice p2_8 n2_8 c2_8) (.slice p3_8 n3_8 c3_8); simpa only [List.set_cons_zero, List.set_cons_succ, updB, updV, blkOf_mk, tup0_mk, partsOf3, cel3_mk, Nat.reduceBEq, cond_true, cond_false, hb, d0, d1, d2, d3, d4, d5, d6, d7, d8, d9, d10, d12, r0, r1, r2, r3, r4, r5, r6, r7, r8, r9, r10, r12] using hX, (fun h => (hJU h).keepB B (by intro u hu i e; simp at hu; subst hu; cases e) (grown_setCell (grown_setCell (grown_setCell (grown_refl _ _) _ _) _ _) _ _)), v0, v1, v2, v3, v4, v5, v6, v7, v8, v9, v10, v11, v12, v14⟩
     refine AllSteps.cons (j := 15) rfl (fun b t wx hJ hb hd hcl Kc hK => ?_) ?_
     · obtain ⟨hH, hJU, v0, v1, v2, v3, v4, v5, v6, v7, v8, v9, v10, v11, v12, v14⟩ := hJ
       have d0 := hd.out 0 (by kernel_rfl); have d1 := hd.out 1 (by kernel_rfl); have d2 := hd.out 2 (by kernel_rfl); have d3 := hd.out 3 (by kernel_rfl); have d4 := hd.out 4 (by kernel_rfl); have d5 := hd.out 5 (by kernel_rfl); have d6 := hd.out 6 (by kernel_rfl); have d7 := hd.out 7 (by kernel_rfl); have d8 := hd.out 8 (by kernel_rfl); have d9 := hd.out 9 (by kernel_rfl); have d10 := hd.out 10 (by kernel_rfl); have d11 := hd.out 11 (by kernel_rfl); have d12 := hd.out 12 (by kernel_rfl); have d13 := hd.out 13 (by kernel_rfl); have r0 := v0 d0; have r1 := v1 d1; have r2 := v2 d2; have r3 := v3 d3; have r4 := v4 d4; have r5 := v5 d5; have r6 := v6 d6; have r7 := v7 d7; have r8 := v8 d8; have r9 := v9 d9; have r10 := v10 d10; have r11 := v11 d11; have r12 := v12 d12
       obtain ⟨p1_4, n1_4, c1_4, p2_4, n2_4, c2_4, p3_4, n3_4, c3_4, r4⟩ := r4
       obtain ⟨z_5, r5⟩ := r5
       obtain ⟨a_7, c_7, n_7, r7⟩ := r7
       obtain ⟨p1_8, n1_8, c1_8, p2_8, n2_8, c2_8, p3_8, n3_8, c3_8, r8⟩ := r8
       obtain ⟨q_12, r12⟩ := r12
       go_simp
       refine hK.out _ ?_ _ ?_ ?_; rotate_left 2
       · (try simp only [r0, r1, r2, r3, r4, r5, r6, r7, r8, r9, r10, r11, r12]); rfl
       exact ⟨hH, hJU, v0, v1, v2, v3, v4, v5, v6, v7, v8, v9, v10, v11, v12, fun _ => rfl⟩
     exact AllSteps.nil
   case hEf =>
    intro b t wf hJ hall
    obtain ⟨hHf, hJUf, v0, v1, v2, v3, v4, v5, v6, v7, v8, v9, v10, v11, v12, v14⟩ := hJ
    have a0 := hall 0 (by decide); have a1 := hall 1 (by decide); have a2 := hall 2 (by decide); have a3 := hall 3 (by decide); have a4 := hall 4 (by decide); have a5 := hall 5 (by decide); have a6 := hall 6 (by decide); have a7 := hall 7 (by decide); have a8 := hall 8 (by decide); have a9 := hall 9 (by decide); have a10 := hall 10 (by decide); have a11 := hall 11 (by decide); have a12 := hall 12 (by decide); have a13 := hall 13 (by decide); have a14 := hall 14 (by decide)
    (try simp only [a0, a1, a2, a3, a4, a5, a6, a7, a8, a9, a10, a11, a12, a13, a14, cond_true] at hHf)
    replace v0 := v0 a0; replace v1 := v1 a1; replace v2 := v2 a2; replace v3 := v3 a3; replace v4 := v4 a4; replace v5 := v5 a5; replace v6 := v6 a6; replace v7 := v7 a7; replace v8 := v8 a8; replace v9 := v9 a9; replace v10 := v10 a10; replace v11 := v11 a11; replace v12 := v12 a12; replace v14 := v14 a14
    replace hJUf := hJUf a8
    clear hall a0 a1 a2 a3 a4 a5 a6 a7 a8 a9 a10 a11 a12 a13 a14
    generalize t 14 = x14 at hHf v14 ⊢; generalize t 12 = x12 at hHf v12 ⊢; generalize t 11 = x11 at hHf v11 ⊢; generalize t 10 = x10 at hHf v10 ⊢; generalize t 9 = x9 at hHf v9 ⊢; generalize t 8 = x8 at hHf v8 v9 v10 hJUf ⊢; generalize t 7 = x7 at hHf v7 ⊢; generalize t 6 = x6 at hHf v6 ⊢; generalize t 5 = x5 at hHf v5 ⊢; generalize t 4 = x4 at hHf v4 ⊢; generalize t 3 = x3 at hHf v3 ⊢; generalize t 2 = x2 at hHf v2 ⊢; generalize t 1 = x1 at hHf v1 ⊢; generalize t 0 = x0 at hHf v0 ⊢; subst v0; subst v1; subst v2; subst v3
    obtain ⟨p1f4, n1f4, c1f4, p2f4, n2f4, c2f4, p3f4, n3f4, c3f4, rfl⟩ := v4
    obtain ⟨zf5, rfl⟩ := v5
    subst v6
    obtain ⟨af7, cf7, nf7, rfl⟩ := v7
    obtain ⟨p1f8, n1f8, c1f8, p2f8, n2f8, c2f8, p3f8, n3f8, c3f8, rfl⟩ := v8
    subst v9; subst v10; subst v11
    obtain ⟨qf12, rfl⟩ := v12
    subst v14
    simp only [blkOf_mk, tup0_mk, partsOf3, cel3_mk] at hHf
    clear b
    replace hH := hHf; clear hHf
    replace hH : Held w wf [aB (w.heap.size) 29 [.int .i64 k, .int .i64 p, .int .i64 n, .slice aV m cV, .slice aO op.length cO], aB (w.heap.size + 1) 32 [.slice none 0 0, .slice none 0 0, .slice none 0 0], emp, aTs (.slice af7 nf7 cf7) ([(.slice p1f4 n1f4 c1f4, .slice p2f4 n2f4 c2f4, .slice p3f4 n3f4 c3f4)] ++ cs) ([(([] : List Int), ([] : List Int), oneL k p n)] ++ TJ.map (tenOf dm)), emp, aB qf12 32 [.slice p1f8 n1f8 c1f8, .slice p2f8 n2f8 c2f8, .slice p3f8 n3f8 c3f8]] := hH
    have hJU := hJUf; clear hJUf
    have q0_0 := hH.cl 0 0 rfl rfl; have q0_1 := hH.cl 0 1 rfl rfl; have q0_2 := hH.cl 0 2 rfl rfl; have q0_3 := hH.cl 0 3 rfl rfl; have q0_4 := hH.cl 0 4 rfl rfl; have l0_ := hH.bl 0 rfl; have q1_0 := hH.cl 1 0 rfl rfl; have q1_1 := hH.cl 1 1 rfl rfl; have q1_2 := hH.cl 1 2 rfl rfl; have l1_ := hH.bl 1 rfl; have q5_0 := hH.cl 5 0 rfl rfl; have q5_1 := hH.cl 5 1 rfl rfl; have q5_2 := hH.cl 5 2 rfl rfl; have l5_ := hH.bl 5 rfl
    go_wp2_with fail
    clear q0_0 q0_1 q0_2 q0_3 q0_4 l0_ q1_0 q1_1 q1_2 l1_ q5_0 q5_1 q5_2 l5_
    refine (finishTensor_any HR.out HN.out _ _ _ (hT0.ext hH.ext) (hO.ext hH.ext) HFT.out.1 HFT.out.2.1 _ hJU).mono ?_; rintro ewn8 wn8 ⟨vc, rfl, oc, hwn8⟩
    rw [HFT.out.2.2] at oc
    obtain ⟨fp1, fn1, fc1, fp2, fn2, fc2, fp3, fn3, fc3, rfl⟩ := oc.shape
    replace hH : Held w wn8 [aB (w.heap.size) 29 [.int .i64 k, .int .i64 p, .int .i64 n, .slice aV m cV, .slice aO op.length cO], aB (w.heap.size + 1) 32 [.slice none 0 0, .slice none 0 0, .slice none 0 0], emp, aTs (.slice af7 nf7 cf7) ([(.slice p1f4 n1f4 c1f4, .slice p2f4 n2f4 c2f4, .slice p3f4 n3f4 c3f4)] ++ cs) ([(([] : List Int), ([] : List Int), oneL k p n)] ++ TJ.map (tenOf dm)), emp, aB qf12 32 [.slice p1f8 n1f8 c1f8, .slice p2f8 n2f8 c2f8, .slice p3f8 n3f8 c3f8], aT (.agg #[.slice fp1 fn1 fc1, .slice fp2 fn2 fc2, .slice fp3 fn3 fc3]) op (op.map dm) (flat (netXs HR.out dm ts op))] := (hH.mores 1).addT 6 hwn8 oc (Nat.le_refl _)
    replace hJU := hJU.ext hwn8
    clear hwn8
    have q0_0 := hH.cl 0 0 rfl rfl; have q0_1 := hH.cl 0 1 rfl rfl; have q0_2 := hH.cl 0 2 rfl rfl; have q0_3 := hH.cl 0 3 rfl rfl; have q0_4 := hH.cl 0 4 rfl rfl; have l0_ := hH.bl 0 rfl; have q1_0 := hH.cl 1 0 rfl rfl; have f1_0 := hH.fr 1 0 rfl; have q1_1 := hH.cl 1 1 rfl rfl; have f1_1 := hH.fr 1 1 rfl; have q1_2 := hH.cl 1 2 rfl rfl; have f1_2 := hH.fr 1 2 rfl; have l1_ := hH.bl 1 rfl; have q5_0 := hH.cl 5 0 rfl rfl; have q5_1 := hH.cl 5 1 rfl rfl; have q5_2 := hH.cl 5 2 rfl rfl; have l5_ := hH.bl 5 rfl
    go_wp2_with fail
    have hX := hH.setB3' (k := 1) rfl (.slice fp1 fn1 fc1) (.slice fp2 fn2 fc2) (.slice fp3 fn3 fc3)
    refine bodyPost_ret (v := .tuple #[.agg #[.slice fp1 fn1 fc1, .slice fp2 fn2 fc2, .slice fp3 fn3 fc3], .bool true]) (by simp [results, Try.results79, go_sem, *]) rfl ?_
    exact ⟨_, rfl, hX.ownT (k := 6) rfl, hX.ext⟩
end Go.Proofs.Ytpegckmagiaggaa
