/- rawPermute of the program. -/
import Derived.Test.YtlgjddgajdjllaaGreatHG10
set_option linter.unusedSimpArgs false
set_option linter.unusedVariables false
namespace Go.Proofs.YtlgjddgajdjllaaGreat
open Go.RowKit
theorem OwnI.alloc {w : World} {B : Nat} {v : Value} {l : List Int} (h : OwnI w B v l) (o : Obj) : OwnI (w.alloc o) B v l := h.ext ((Ext.refl _).alloc _)
theorem Blk.alloc {w : World} {b : Nat} {T : TypeId} {xs : List Value} (h : Blk w b T xs) (o : Obj) : Blk (w.alloc o) b T xs := h.ext ((Ext.refl _).alloc _)
theorem Blk.newB {w : World} {c : Array Value} {T : TypeId} {b : Nat} (hb : b = w.heap.size) : Blk (w.alloc (.cells c T)) b T c.toList := by subst hb; exact Blk.new w c T
theorem OwnI.zeros (w : World) (B m b : Nat) (hb : b = w.heap.size) (hB : B ≤ b) (hm : m ≤ 1000000) : OwnI (w.alloc (.cells (madeCells #[.int .i64 0] m) 3)) B (.slice (some ⟨b, 0, none⟩) m m) (List.replicate m 0) := by
  subst hb
  have h := Blk.new w (madeCells #[.int .i64 0] m) 3
  rw [made_zero] at h
  exact OwnI.mk' (by simp) hB h (by unfold maxLen; omega)
section
variable {k p n : Int} (hr : ringOk k p n = true)
set_option maxRecDepth 100000 in
set_option maxHeartbeats 4000000 in
theorem rawPermute_any {dm : Int → Int} {U L M : List Int} {xs : List (El k p n)} (ht : IsT k p n dm U L xs) (hM : L.Perm M) (v vM : Value) (w : World) (hv : TenS w v L (L.map dm) (flat xs)) (hMs : IntS w vM M) :
 Calls Tryz.prog 84 #[ringV k p n, v, vM] w fun e w' => ∃ u, e = .returned u ∧ OwnT w' w.heap.size u M (M.map dm) (flat (permXs hr dm L M xs)) ∧ Ext w w' := by
 have hv0 := hv
 obtain ⟨p1, n1, c1, p2, n2, c2, p3, n3, c3, rfl⟩ := hv.shape
 obtain ⟨_, _, _, hvv, hL, hD, hX⟩ := hv.val
 simp at hvv
 obtain ⟨rfl, rfl, rfl⟩ := hvv
 obtain ⟨_, _, e1, _, _⟩ := hL.val
 simp at e1
 obtain ⟨rfl, rfl, rfl⟩ := e1
 obtain ⟨_, _, e2, _, _⟩ := hD.val
 simp at e2
 obtain ⟨rfl, rfl, rfl⟩ := e2
 obtain ⟨_, _, e3, _, _⟩ := hX.val
 simp at e3
 obtain ⟨rfl, rfl, rfl⟩ := e3
 obtain ⟨aM, cM, rfl, hcM, hdM⟩ := hMs.val
 obtain ⟨P, W, hP, hW, hP1, hP2, hW1', hW6, hXl⟩ := (ht.ok hr).nat hr
 have hPW1 : 1 ≤ P * W := Nat.mul_le_mul hP1 hW1'
 have hPW : P * W ≤ 4096 * 6 := Nat.mul_le_mul hP2 hW6
 obtain ⟨bX, oX, cX, hXX, hcX, hcX2, hbX⟩ := hX.open (by omega)
 cases hXX
 have hX9 : (flat xs).length ≤ 1048576 := by omega
 have HWW := Lib.hid hW; have HXL := Lib.hid hXl
 clear hP hP1 hP2 hW hXl hPW1 hPW
 have HR := Lib.hid hr
 have HT := Lib.hid ht; clear ht
 have HP := Lib.hid hM; clear hM
 have sM : Hid (Sub U M) := Lib.hid (HT.out.sub.perm HP.out)
 have hml : M.length ≤ 12 := by have := (HT.out.uni.ax sM.out).rank; exact this
 have hmk := mkInts M.length (by omega)
 generalize hW1 : ((w.alloc (.cells #[.int .i64 k, .int .i64 p, .int .i64 n] 24)).alloc (.cells #[.slice p1 L.length c1, .slice p2 L.length c2, .slice (some ⟨bX, oX, none⟩) (flat xs).length c3] 35)).alloc (.cells #[.slice none 0 0, .slice none 0 0, .slice none 0 0] 35) = w1
 have h1 : Ext w w1 := by rw [← hW1]; exact xt
 have BK : Blk w1 w.heap.size 24 [.int .i64 k, .int .i64 p, .int .i64 n] := by rw [← hW1]; exact Blk.ext (Blk.new w #[_, _, _] 24) xt
 have BT : Blk w1 (w.heap.size + 1) 35 [.slice p1 L.length c1, .slice p2 L.length c2, .slice (some ⟨bX, oX, none⟩) (flat xs).length c3] := by rw [← hW1]; exact Blk.ext (w := (w.alloc (.cells #[.int .i64 k, .int .i64 p, .int .i64 n] 24)).alloc (.cells #[.slice p1 L.length c1, .slice p2 L.length c2, .slice (some ⟨bX, oX, none⟩) (flat xs).length c3] 35)) (by simpa using Blk.new (w.alloc (.cells #[.int .i64 k, .int .i64 p, .int .i64 n] 24)) #[.slice p1 L.length c1, .slice p2 L.length c2, .slice (some ⟨bX, oX, none⟩) (flat xs).length c3] 35) xt
 have BR : Blk w1 (w.heap.size + 2) 35 [.slice none 0 0, .slice none 0 0, .slice none 0 0] := by rw [← hW1]; simpa using Blk.new ((w.alloc (.cells #[.int .i64 k, .int .i64 p, .int .i64 n] 24)).alloc (.cells #[.slice p1 L.length c1, .slice p2 L.length c2, .slice (some ⟨bX, oX, none⟩) (flat xs).length c3] 35)) #[.slice none 0 0, .slice none 0 0, .slice none 0 0] 35
 have HS1 : Hid (w1.heap.size = w.heap.size + 3) := Lib.hid (by rw [← hW1]; simp)
 have HW := Lib.hid hW1; clear hW1
 have hMs1 := hMs.ext h1
 go_enter Tryz.func84, Tryz.ntmps84
 go_wp2_with fail
 rw [HW.out]
 go_upto_region 1 with fail
 go_cut [7] from 12 (fun q wx => ∃ b v1 v2, q = .pointer (some ⟨b, 0, none⟩) ∧ w1.heap.size ≤ b ∧ Blk wx b 35 [v1, v2, .slice none 0 0] ∧ OwnI wx w1.heap.size v1 M ∧ OwnI wx w1.heap.size v2 (List.replicate M.length 0) ∧ (∀ q, v1.ownBlock = some q → v2.ownBlock ≠ some q ∧ q ≠ b) ∧ (∀ q, v2.ownBlock = some q → q ≠ b) ∧ Ext w1 wx)
 case first =>
  go_region_law (first | (go_simp; go_at_call 58; (with_reducible refine (copyInts_any _ M _ (hMs1.ext (show Ext w1 _ from xt)) (by omega)).mono ?_); rintro e2 w2 ⟨v2, rfl, o2, h2⟩; obtain ⟨a2, k2, rfl, _, _⟩ := o2.ints.val; have s2 := h2.size; (try simp at s2); have O2 := o2.mono (B' := w1.heap.size) (by first | (simp [World.setCell]; done) | (simp [World.setCell]; omega) | omega); have N2 : Hid (∀ q, (Value.slice a2 M.length k2).ownBlock = some q → _ ≤ q ∧ q < w2.heap.size) := Lib.hid (fun q hq => o2.block_lt hq); (try have Z2 : OwnI w2 w1.heap.size (.slice (some ⟨w1.heap.size, 0, none⟩) M.length M.length) (List.replicate M.length 0) := (OwnI.zeros w1.drew w1.heap.size M.length w1.heap.size rfl (by omega) (by omega)).ext h2); (try have Z2 : OwnI w2 w1.heap.size (.slice (some ⟨w1.heap.size, 0, none⟩) M.length M.length) (List.replicate M.length 0) := ((OwnI.zeros w1.drew w1.heap.size M.length w1.heap.size rfl (by omega) (by omega)).alloc _).ext h2); (try have Z2 : OwnI w2 w1.heap.size (.slice (some ⟨w1.heap.size + 1, 0, none⟩) M.length M.length) (List.replicate M.length 0) := (OwnI.zeros (w1.drew.alloc (.cells #[.slice none 0 0, .slice none 0 0, .slice none 0 0] 35)) w1.heap.size M.length (w1.heap.size + 1) (by simp) (by omega) (by omega)).ext h2); (try have Y2 : Blk w2 (w1.heap.size) 35 [.slice none 0 0, .slice none 0 0, .slice none 0 0] := (Blk.new w1.drew #[.slice none 0 0, .slice none 0 0, .slice none 0 0] 35).ext h2); (try have Y2 : Blk w2 (w1.heap.size) 35 [.slice none 0 0, .slice none 0 0, .slice none 0 0] := ((Blk.new w1.drew #[.slice none 0 0, .slice none 0 0, .slice none 0 0] 35).alloc _).ext h2); (try have Y2 : Blk w2 (w1.heap.size + 1) 35 [.slice none 0 0, .slice none 0 0, .slice none 0 0] := (Blk.newB (w := w1.drew.alloc (.cells (madeCells #[.int .i64 0] M.length) 3)) (c := #[.slice none 0 0, .slice none 0 0, .slice none 0 0]) (by simp)).ext h2); (try (have t2_0 : w1.heap.size < w2.heap.size := by omega)); (try (have t2_1 : w1.heap.size + 1 < w2.heap.size := by omega)); (try (have c2_0 := fun o => h2.cells w1.heap.size o (by first | (simp; done) | (simp; omega)))); (try (have f2_0 := fun o => h2.frozens w1.heap.size o (by first | (simp; done) | (simp; omega)))); (try (have c2_1 := fun o => h2.cells (w1.heap.size + 1) o (by first | (simp; done) | (simp; omega)))); (try (have f2_1 := fun o => h2.frozens (w1.heap.size + 1) o (by first | (simp; done) | (simp; omega))))))
  all_goals
   go_wp2_with fail
   go_meet
   first
    | refine ⟨w2.heap.size, .slice a2 M.length k2, .slice (some ⟨w2.heap.size + 1, 0, none⟩) M.length M.length, rfl, ?_, (Blk.new w2 #[_, _, _] _).alloc _, ?_, ?_, ?_, ?_, ?_⟩
    | refine ⟨w2.heap.size, .slice a2 M.length k2, .slice (some ⟨w1.heap.size, 0, none⟩) M.length M.length, rfl, ?_, Blk.new w2 #[_, _, _] _, ?_, ?_, ?_, ?_, ?_⟩
    | refine ⟨w1.heap.size + 1, .slice a2 M.length k2, .slice (some ⟨w1.heap.size, 0, none⟩) M.length M.length, rfl, ?_, ((Y2.set 0 _).set 1 _).set 2 _, ?_, ?_, ?_, ?_, ?_⟩
    | refine ⟨w1.heap.size, .slice a2 M.length k2, .slice (some ⟨w2.heap.size, 0, none⟩) M.length M.length, rfl, ?_, (((Y2.set 0 _).set 1 _).set 2 _).alloc _, ?_, ?_, ?_, ?_, ?_⟩
    | refine ⟨w1.heap.size, .slice a2 M.length k2, .slice (some ⟨w1.heap.size + 1, 0, none⟩) M.length M.length, rfl, ?_, ((Y2.set 0 _).set 1 _).set 2 _, ?_, ?_, ?_, ?_, ?_⟩
    | refine ⟨w2.heap.size + 1, .slice a2 M.length k2, .slice (some ⟨w2.heap.size, 0, none⟩) M.length M.length, rfl, ?_, Blk.newB (c := #[_, _, _]) (by simp), ?_, ?_, ?_, ?_, ?_⟩
   · omega
   · repeat' (first | exact O2 | (with_reducible refine OwnI.alloc ?_ _) | (with_reducible refine OwnI.setOther ?_ (fun q hq => by have := N2.out q hq; first | omega | (simp at this ⊢; omega)) _))
   · repeat' (first | exact Z2 | exact OwnI.zeros _ _ _ _ (by simp) (by omega) (by omega) | (with_reducible refine OwnI.alloc ?_ _) | (with_reducible refine OwnI.setOther ?_ (fun q hq => by simp [Value.ownBlock] at hq; first | omega | (simp; omega)) _))
   · exact fun q hq => ⟨fun e => by have := N2.out q hq; simp [Value.ownBlock] at e this; omega, by have := N2.out q hq; simp at this; omega⟩
   · exact fun q hq => by simp [Value.ownBlock] at hq; omega
   · exact xt
 obtain ⟨b, v1, v2, rfl, hb, BP, o1, o2, d12, d2, E2⟩ := hcut
 obtain ⟨a1, k1, rfl, _, _⟩ := o1.ints.val
 obtain ⟨a2, k2, rfl, hk2, _⟩ := o2.ints.val
 rw [List.length_replicate] at o2 d12 d2 BP hk2
 have D12 := Lib.hid d12; clear d12
 have D2 := Lib.hid d2; clear d2
 have hbl := BP.lt
 have HB : Hid (w.heap.size + 3 ≤ b) := Lib.hid (by have := HS1.out; omega)
 clear HW
 go_wp2
 go_loopw [20] (fun i wr => ∃ j : Nat, j ≤ M.length ∧ i = .int .i64 j ∧ Blk wr b 35 [.slice a1 M.length k1, .slice a2 M.length k2, .slice none 0 0] ∧ OwnI wr w1.heap.size (.slice a1 M.length k1) M ∧ OwnI wr w1.heap.size (.slice a2 M.length k2) (mixM dm (fun _ => 0) M j) ∧ Ext w1 wr) (fun i wr => M.length - (RowKit.intOf i).toNat)
 case atStart => exact ⟨0, Nat.zero_le _, rfl, BP, o1, by rw [mixM_zero, List.map_const']; exact o2, E2⟩
 obtain ⟨j, hj, rfl, BP, o1, o2, hE⟩ := hrel
 have BTr := BT.ext hE
 have t0 := BTr.cell (j := 0) rfl
 have t1 := BTr.cell (j := 1) rfl
 have t2 := BTr.cell (j := 2) rfl
 have tl := BTr.lt
 have q1 := BP.cell (j := 1) rfl
 have ql := BP.lt
 by_cases hlt : j < M.length
 · obtain ⟨bm, om, m, rfl, hcm, hm, _⟩ := (hMs1.ext hE).get hlt
   obtain ⟨i, hf, hi, hLi, hDi⟩ := map_get_find (dm := dm) (HP.out.mem_iff.2 (List.mem_of_getElem? hm))
   obtain ⟨u, hu⟩ := mixM_get (f := dm) (g := fun _ => 0) hlt
   obtain ⟨bd, kk, hbd, hvv, _, _⟩ := o2.open (by rw [mixM_length]; omega)
   rw [mixM_length] at hvv
   cases hvv
   obtain ⟨bD, oD, z, rfl, hcz, hz, _⟩ := hD.get (i := i) (by simpa using hi)
   obtain rfl : z = dm m := by rw [hDi] at hz; exact (Option.some.inj hz).symm
   have HF := Lib.hid hf
   have hset := fun E => (o2.ext (w' := E))
   have hne1 : bd ≠ b := D2.out bd rfl
   have hne2 : b ≠ bd := hne1.symm
   have hne3 : bd ≠ w.heap.size + 1 := by have := HS1.out; omega
   have hbDl : bD < w.heap.size := World.block_lt_of_cell? _ _ hcz
   have hne5 : bD ≠ bd := fun e => by have := HS1.out; have := hbd; subst e; omega
   have hczr := (h1.trans hE).cell hcz
   have hne4 : w.heap.size + 1 ≠ bd := hne3.symm
   have hMX := mixM_step (g := fun _ => 0) (f := dm) hm
   have HMX := Lib.hid hMX
   have HU := Lib.hid hu
   have hil : i < L.length := hi
   have hjk : j < k2 := by omega
   have hic : (i : Int) < (L.length : Int) := by omega
   clear hf hm hLi hDi hz hu hset hMX
   have D0 : Ext wr wr.drew := (Ext.refl _).drew
   have hvr : TenS wr.drew (.agg #[.slice p1 L.length c1, .slice (some ⟨bD, oD, none⟩) L.length c2, .slice (some ⟨bX, oX, none⟩) (flat xs).length c3]) L (L.map dm) (flat xs) := hv0.ext ((h1.trans hE).trans D0)
   go_upto_region 5 with fail
   go_region_held3 (fun w' => w'.cell? ⟨w.heap.size + 1, 0, none⟩ = some (.slice p1 L.length c1) ∧ w'.cell? ⟨w.heap.size + 1, 1, none⟩ = some (.slice (some ⟨bD, oD, none⟩) L.length c2) ∧ w'.cell? ⟨w.heap.size + 1, 2, none⟩ = some (.slice (some ⟨bX, oX, none⟩) (flat xs).length c3) ∧ w'.cell? ⟨b, 1, none⟩ = some (.slice (some ⟨bd, 0, none⟩) M.length k2) ∧ w'.cell? ⟨bD, oD + i, none⟩ = some (.int .i64 (dm m)))
    (refine ⟨?_, ?_, ?_, ?_, ?_⟩ <;> first | assumption | exact grown_cell (grown_setCell (grown_refl _ _) _ _) (by assumption) (by assumption) | exact ((Ext.refl _).drew).cell (by assumption))
    (first | (go_at_call 81; (with_reducible refine (axisOf_any _ L _ _ m wr.drew hvr).mono ?_); rintro e3 w3 ⟨rfl, h3⟩; rw [HF.out]; have E3 : Ext wr w3 := D0.trans h3; have o23 := o2.ext E3; obtain ⟨hcu, hfu⟩ := o23.cell HU.out; have r0 := E3.cell t0; have r1 := E3.cell t1; have r2 := E3.cell t2; have r3 := E3.cell q1; have hcz3 := (h1.trans (hE.trans E3)).cell hcz; have hdl := (o23.block_lt (k := bd) rfl).2))
   have E4 : Ext w1 (w3.setCell ⟨bd, j, none⟩ (.int .i64 (dm m))) := (hE.trans E3).setAt hbd _ _
   have hset := o23.set j (by rw [mixM_length]; exact hlt) (dm m)
   rw [HMX.out] at hset
   have HS := Lib.hid hset; clear hset
   have BP4 := (BP.ext E3).other (p := ⟨bd, j, none⟩) hne1 (.int .i64 (dm m))
   have o14 := (o1.ext E3).setOther (p := ⟨bd, j, none⟩) (fun q hq e => (D12.out q hq).1 (by rw [← e]; rfl)) (.int .i64 (dm m))
   go_wp2
   go_roundw
   case rel => exact ⟨j + 1, by omega, by go_num, BP4, o14, HS.out, E4⟩
   case measure => simp [RowKit.intOf]; omega
 have : j = M.length := by omega
 subst this
 rw [mixM_all] at o2
 clear q1
 have BKr := BK.ext hE
 have hs1 : w1.heap.size ≤ wr.heap.size := hE.size
 have N1 : Hid (∀ q, (Value.slice a1 M.length k1).ownBlock = some q → q < wr.heap.size ∧ q ≠ b) := Lib.hid fun q hq => ⟨(o1.block_lt hq).2, (D12.out q hq).2⟩
 have N2 : Hid (∀ q, (Value.slice a2 M.length k2).ownBlock = some q → q < wr.heap.size ∧ q ≠ b) := Lib.hid fun q hq => ⟨(o2.block_lt hq).2, D2.out q hq⟩
 have N12 : Hid (∀ q, (Value.slice a1 M.length k1).ownBlock = some q → (Value.slice a2 M.length k2).ownBlock ≠ some q) := Lib.hid fun q hq => (D12.out q hq).1
 clear D2 D12
 go_wp2_with fail
 refine (stridesOf_any _ _ L (L.map dm) (flat xs) M _ (hv0.ext (h1.trans hE)) (hMs1.ext hE) (by simp) HT.out.dims (by have := HT.out.ax.size; omega) (by omega)).mono ?_; rintro e4 w4 ⟨v4, rfl, o4, h4⟩
 obtain ⟨a4, k4, rfl, _, _⟩ := o4.ints.val
 rw [List.length_map] at o4
 have E4 : Ext w1 w4 := hE.trans h4
 have s4 := h4.size
 have HZr : Hid (wr.heap.size ≤ w4.heap.size) := Lib.hid s4
 go_wp2_with fail
 generalize hW5 : w4.alloc (.cells (madeCells #[.int .i64 0] M.length) 3) = w5
 have h5 : Ext w4 w5 := by rw [← hW5]; exact (Ext.refl _).alloc _
 have oI : OwnI w5 w1.heap.size (.slice (some ⟨w4.heap.size, 0, none⟩) M.length M.length) (List.replicate M.length 0) := by rw [← hW5]; exact OwnI.zeros w4 _ _ _ rfl (by omega) (by omega)
 have hs5 : w5.heap.size = w4.heap.size + 1 := by rw [← hW5]; simp
 have HS5 := Lib.hid hs5
 clear hW5 hs5
 have BP5 := (BP.ext h4).ext h5
 have o15 := (o1.ext h4).ext h5
 have o25 := (o2.ext h4).ext h5
 have o45 := (o4.ext h5).mono hs1
 have N4 : Hid (∀ q, (Value.slice a4 M.length k4).ownBlock = some q → q < w4.heap.size ∧ q ≠ b) := Lib.hid fun q hq => by have := o4.block_lt hq; have := BP.lt; exact ⟨by omega, by omega⟩
 have hb4 : b < w4.heap.size := by have := BP.lt; omega
 obtain ⟨Z, hZ⟩ : ∃ Z, size (axs dm M) = Z := ⟨_, rfl⟩
 obtain ⟨hz1, hz2⟩ := HT.out.uni.small sM.out
 rw [hZ] at hz1 hz2
 obtain ⟨Ys, hYs⟩ : ∃ Ys, permXs hr dm L M xs = Ys := ⟨_, rfl⟩
 have hYl : Ys.length = Z := by rw [← hYs, permXs_length, hZ]
 have HZ := Lib.hid hZ; have HYs := Lib.hid hYs; have HYl := Lib.hid hYl
 clear hZ hYs hYl
 go_loopg [] Z (fun g wr => ∃ (o : Nat) (vd : Value), Hid (g + o = Z) ∧ o < Z ∧ Blk wr b 35 [.slice a1 M.length k1, .slice a2 M.length k2, vd] ∧ OwnI wr w1.heap.size (.slice a1 M.length k1) M ∧ OwnI wr w1.heap.size (.slice a2 M.length k2) (M.map dm) ∧ OwnI wr w1.heap.size (.slice a4 M.length k4) (M.map (stride L (L.map dm))) ∧
  OwnI wr w1.heap.size (.slice (some ⟨w4.heap.size, 0, none⟩) M.length M.length) (M.map (asg (axs dm M) o σ0)) ∧ OwnI wr w5.heap.size vd (flat (Ys.take o)) ∧ Ext w1 wr ∧ w5.heap.size ≤ wr.heap.size)
 case atStart => exact ⟨0, _, Lib.hid (by omega), by omega, BP5, o15, o25, o45, by rw [asg_zero HT.out.uni sM.out]; exact oI, OwnI.nil _ _, E4.trans h5, Nat.le_refl _⟩
 obtain ⟨o, vd, hg, ho, BP6, o16, o26, o46, oI6, oD, hE6, hs6⟩ := hrel
 have e16 := h1.trans hE6
 have BKr := BK.ext hE6
 have BTr := BT.ext hE6
 have i0 := BKr.cell (j := 0) rfl
 have i1 := BKr.cell (j := 1) rfl
 have i2 := BKr.cell (j := 2) rfl
 have t0 := BTr.cell (j := 0) rfl
 have t1 := BTr.cell (j := 1) rfl
 have t2 := BTr.cell (j := 2) rfl
 have q2 := BP6.cell (j := 2) rfl
 have kl := BKr.lt
 have tl := BTr.lt
 have ql := BP6.lt
 obtain ⟨Y, hY⟩ : ∃ Y, flat (Ys.take o) = Y := ⟨_, rfl⟩
 rw [hY] at oD
 obtain ⟨ad, cd, rfl, _, _⟩ := oD.ints.val
 have hfit : Fits (axs dm L) (asg (axs dm M) o σ0) := (asg_fits' HT.out.uni sM.out o σ0).perm (axs_perm HP.out.symm)
 obtain ⟨q, hq1, hq2, hq3, hq4⟩ := read_at HR.out HWW.out HT.out sM.out.nodup (fun l hl => HP.out.mem_iff.1 hl) hfit
 have hq5 := HT.out.small
 have hx : Hid (flat (Ys.take (o + 1)) = Y ++ getL (flat xs) (q * W) W) := Lib.hid (by
  rw [hq3, ← hY, ← HYs.out]
  exact flat_take_tab _ _ _ (by rw [HZ.out]; exact ho))
 have hYl2 : Y.length ≤ 4096 * 6 := by
  rw [← hY, flat_length HWW.out, List.length_take, HYl.out]
  exact Nat.mul_le_mul (by omega) hW6
 have hgl : (getL (flat xs) (q * W) W).length = W := getL_length hq2
 obtain ⟨x, hxx⟩ : ∃ x, getL (flat xs) (q * W) W = x := ⟨_, rfl⟩
 rw [hxx] at hx hgl
 have HXX := Lib.hid hxx; have HQ1 := Lib.hid hq1; have HQ2 := Lib.hid hq2; have HGL := Lib.hid hgl
 have hqW : (q : Int) * (W : Int) = ((q * W : Nat) : Int) := by simp
 have HQW := Lib.hid hqW
 have hqn : (0 : Int) ≤ (q : Int) := by omega
 have hqb : (q : Int) ≤ 1048576 := by omega
 clear hY hfit hq1 hq2 hq3 hxx hgl hqW hq4
 have D0 : Ext wr wr.drew := (Ext.refl _).drew
 have hsI := (oI6.ints.ext D0)
 have hsS := (o46.ints.ext D0)
 have hP0 : Hid (∀ z ∈ M.map (stride L (L.map dm)), 0 ≤ z) := Lib.hid (stride_pos HT.out.uni HT.out.sub)
 have hP1 : Hid (∀ z ∈ M.map (asg (axs dm M) o σ0), 0 ≤ z) := Lib.hid fun z hz => (asg_pos HT.out.uni sM.out o z hz).1
 have hw := ringOk_wide HR.out
 have hnb0 : w.heap.size ≠ b := by have := HB.out; omega
 have hnb1 : w.heap.size + 1 ≠ b := by have := HB.out; omega
 have ND : Hid (∀ q, (Value.slice ad Y.length cd).ownBlock = some q → w5.heap.size ≤ q ∧ q < wr.heap.size) := Lib.hid fun q hq => oD.block_lt hq
 have hsrc := hX.ext e16
 have j0 := BK.cell (j := 0) rfl
 have j1 := BK.cell (j := 1) rfl
 have j2 := BK.cell (j := 2) rfl
 have k0 := BT.cell (j := 0) rfl
 have k1' := BT.cell (j := 1) rfl
 have k2' := BT.cell (j := 2) rfl
 go_upto_region 9 with fail
 go_cut [] from 43 to 58 (fun wx => ∃ v9 w8 w9, Ext wr w8 ∧ w8.grownBy w9 (Value.slice ad Y.length cd).ownBlock ∧ OwnI w9 w5.heap.size v9 (Y ++ x) ∧ Blk w9 b 35 [.slice a1 M.length k1, .slice a2 M.length k2, .slice ad Y.length cd] ∧ wx = w9.setCell ⟨b, 2, none⟩ v9)
 case first =>
  refine wp_region_held_drew (S := fun w' => w'.cell? ⟨w.heap.size, 0, none⟩ = some (.int .i64 k) ∧ w'.cell? ⟨w.heap.size, 1, none⟩ = some (.int .i64 p) ∧ w'.cell? ⟨w.heap.size, 2, none⟩ = some (.int .i64 n) ∧ w'.cell? ⟨w.heap.size + 1, 0, none⟩ = some (.slice p1 L.length c1) ∧ w'.cell? ⟨w.heap.size + 1, 1, none⟩ = some (.slice p2 L.length c2) ∧ w'.cell? ⟨w.heap.size + 1, 2, none⟩ = some (.slice (some ⟨bX, oX, none⟩) (flat xs).length c3)) (by kernel_rfl) ?_ (fun hHeld => ?_)
  · (refine ⟨?_, ?_, ?_, ?_, ?_, ?_⟩ <;> first | assumption | exact grown_cell (grown_setCell (grown_refl _ _) _ _) (by assumption) (by assumption) | exact ((Ext.refl _).drew).cell (by assumption))
  refine wpAnyH_take (i := 0) (v := ?_) rfl (by kernel_rfl) (by kernel_rfl) (by kernel_rfl) (fun _ _ _ h => h) (Or.inl ⟨by rfl, ?_⟩) (by assumption) ?_
  rotate_left
  · intro w hSw; (try dsimp only at hSw); go_simp; (try with_reducible rfl)
  (try go_simp)
  refine wpAnyH_take (i := 2) (v := ?_) rfl (by kernel_rfl) (by kernel_rfl) (by kernel_rfl) (fun _ _ _ h => h) (Or.inl ⟨by rfl, ?_⟩) (by assumption) ?_
  rotate_left
  · intro w hSw; (try dsimp only at hSw); go_simp; (try with_reducible rfl)
  (try go_simp)
  refine wpAnyH_take (i := 3) (v := ?_) rfl (by kernel_rfl) (by kernel_rfl) (by kernel_rfl) (fun _ _ _ h => h) (Or.inl ⟨by rfl, ?_⟩) (by assumption) ?_
  rotate_left
  · intro w hSw; (try dsimp only at hSw); go_simp; (try with_reducible rfl)
  (try go_simp)
  refine wpAnyH_take (i := 4) (v := ?_) rfl (by kernel_rfl) (by kernel_rfl) (by kernel_rfl) (fun _ _ _ h => h) (Or.inl ⟨by rfl, ?_⟩) (by assumption) ?_
  rotate_left
  · intro w hSw; (try dsimp only at hSw); go_simp; (try with_reducible rfl)
  (try go_simp)
  refine wpAnyH_take (i := 5) (v := ?_) rfl (by kernel_rfl) (by kernel_rfl) (by kernel_rfl) (fun _ _ _ h => h) (Or.inl ⟨by rfl, ?_⟩) (by assumption) ?_
  rotate_left
  · intro w hSw; (try dsimp only at hSw); go_simp; (try with_reducible rfl)
  (try go_simp)
  refine wpAnyH_ready (rs := [1, 6]) (by kernel_rfl) (by simp) ?_
  refine AllReadyH.cons rfl (fun K hK => ?_) ?_
  ·
   go_simp
   refine hK.out _ _ ?_ (fun hHeld => ?_) <;> clear hK K
   · (refine ⟨?_, ?_, ?_, ?_, ?_, ?_⟩ <;> first | assumption | exact grown_cell (grown_setCell (grown_refl _ _) _ _) (by assumption) (by assumption) | exact ((Ext.refl _).drew).cell (by assumption))
   refine wpAnyH_ready (rs := [6]) (by kernel_rfl) (by simp) ?_
   refine AllReadyH.cons rfl (fun K hK => ?_) AllReadyH.nil
   go_simp; go_at_call 42
   (with_reducible refine (dotOf_ext _ _ (M.map (stride L (L.map dm))) (M.map (asg (axs dm M) o σ0)) wr.drew hsS hsI (by simp) hP0.out hP1.out (by rw [HQ1.out]; exact hqb)).mono ?_); rintro e7 w7 ⟨rfl, h7⟩; rw [HQ1.out]; have E7 : Ext wr w7 := D0.trans h7; have q7 := E7.cell q2; have r7_0 := E7.cell i0; have r7_1 := E7.cell i1; have r7_2 := E7.cell i2; have r7_3 := E7.cell t0; have r7_4 := E7.cell t1; have r7_5 := E7.cell t2
   (try go_simp)
   refine hK.out _ _ ?_ (fun hHeld => ?_) <;> clear hK K
   · (refine ⟨?_, ?_, ?_, ?_, ?_, ?_⟩ <;> first | assumption | exact grown_cell (grown_setCell (grown_refl _ _) _ _) (by assumption) (by assumption) | exact ((Ext.refl _).drew).cell (by assumption))
   refine wpAnyH_ready (rs := [7]) (by kernel_rfl) (by simp) ?_
   refine AllReadyH.cons rfl (fun K hK => ?_) AllReadyH.nil
   go_simp; go_at_call 41
   (with_reducible refine (rawElem_gen k p n q (q * W) W HWW.out _ _ _ _ _ _ bX oX (flat xs).length c3 w7 HQW.out hqn hw HQ2.out hcX hX9).mono ?_); rintro e8 w8 ⟨rfl, h8⟩; have E8 : Ext wr w8 := E7.trans h8; have q8 := E8.cell q2; have oD8 := oD.ext E8; have hpart := IntS.part (hsrc.ext E8) (W := W) (o := q * W) hW1' HQ2.out; rw [HXX.out] at hpart; have s8 := E8.size; have r8_0 := E8.cell i0; have r8_1 := E8.cell i1; have r8_2 := E8.cell i2; have r8_3 := E8.cell t0; have r8_4 := E8.cell t1; have r8_5 := E8.cell t2
   (try go_simp)
   refine hK.out _ _ ?_ (fun hHeld => ?_) <;> clear hK K
   · (refine ⟨?_, ?_, ?_, ?_, ?_, ?_⟩ <;> first | assumption | exact grown_cell (grown_setCell (grown_refl _ _) _ _) (by assumption) (by assumption) | exact ((Ext.refl _).drew).cell (by assumption))
   refine wpAnyH_ready (rs := [8]) (by kernel_rfl) (by simp) ?_
   refine AllReadyH.cons rfl (fun K hK => ?_) AllReadyH.nil
   refine step_app w8 rfl _ _ 27 rfl (.slice ad Y.length cd) (.slice (some ⟨bX, oX + q * W, none⟩) W (c3 - q * W)) rfl rfl _ (run_app_ints _ w8 w5.heap.size _ _ Y x oD8 hpart (by rw [HGL.out]; omega) (by omega)) ?_; rintro v9 w9 ⟨o9, g9, _⟩; obtain ⟨a9, c9, hv9, _, _⟩ := o9.ints.val; rw [List.length_append, HGL.out] at hv9; subst hv9; have BP9 := (BP6.ext E8).block (g9.block _ (by omega) (fun e => by have := ND.out _ e.symm; have := HS5.out; omega)); have z9 := BP9.free 2; have q9 := BP9.cell (j := 2) rfl; have u9 := BP9.lt; have E9 : Ext w1 w9 := (hE6.trans E8).only g9 (fun z hz => by have := ND.out z hz; have := HS5.out; omega); have r9_0 := E9.cell j0; have r9_1 := E9.cell j1; have r9_2 := E9.cell j2; have r9_3 := E9.cell k0; have r9_4 := E9.cell k1'; have r9_5 := E9.cell k2'
   refine hK.out _ _ ?_ (fun hHeld => ?_) <;> clear hK K
   · (refine ⟨?_, ?_, ?_, ?_, ?_, ?_⟩ <;> first | assumption | exact grown_cell (grown_setCell (grown_refl _ _) _ _) (by assumption) (by assumption) | exact ((Ext.refl _).drew).cell (by assumption))
   refine wpAnyH_take (i := 9) (v := ?_) rfl (by kernel_rfl) (by kernel_rfl) (by kernel_rfl) (fun _ _ _ h => h) (Or.inl ⟨by rfl, ?_⟩) (by assumption) ?_
   rotate_left
   · intro w hSw; (try dsimp only at hSw); go_simp; (try with_reducible rfl)
   (try go_simp)
   refine wpAnyH_ready (rs := [10]) (by kernel_rfl) (by simp) ?_
   refine AllReadyH.cons rfl (fun K hK => ?_) AllReadyH.nil
   go_simp
   refine hK.out _ _ ?_ (fun hHeld => ?_) <;> clear hK K
   · (refine ⟨?_, ?_, ?_, ?_, ?_, ?_⟩ <;> first | assumption | exact grown_cell (grown_setCell (grown_refl _ _) _ _) (by assumption) (by assumption) | exact ((Ext.refl _).drew).cell (by assumption))
   refine wpAnyH_done (by kernel_rfl) ?_ _
   go_wp2_with fail
   go_meet
   exact ⟨_, w8, w9, E8, g9, o9, BP9, rfl⟩
  refine AllReadyH.cons rfl (fun K hK => ?_) AllReadyH.nil
  go_simp; go_at_call 42
  (with_reducible refine (dotOf_ext _ _ (M.map (stride L (L.map dm))) (M.map (asg (axs dm M) o σ0)) wr.drew hsS hsI (by simp) hP0.out hP1.out (by rw [HQ1.out]; exact hqb)).mono ?_); rintro e7 w7 ⟨rfl, h7⟩; rw [HQ1.out]; have E7 : Ext wr w7 := D0.trans h7; have q7 := E7.cell q2; have r7_0 := E7.cell i0; have r7_1 := E7.cell i1; have r7_2 := E7.cell i2; have r7_3 := E7.cell t0; have r7_4 := E7.cell t1; have r7_5 := E7.cell t2
  (try go_simp)
  refine hK.out _ _ ?_ (fun hHeld => ?_) <;> clear hK K
  · (refine ⟨?_, ?_, ?_, ?_, ?_, ?_⟩ <;> first | assumption | exact grown_cell (grown_setCell (grown_refl _ _) _ _) (by assumption) (by assumption) | exact ((Ext.refl _).drew).cell (by assumption))
  refine wpAnyH_ready (rs := [1, 7]) (by kernel_rfl) (by simp) ?_
  refine AllReadyH.cons rfl (fun K hK => ?_) ?_
  ·
   go_simp
   refine hK.out _ _ ?_ (fun hHeld => ?_) <;> clear hK K
   · (refine ⟨?_, ?_, ?_, ?_, ?_, ?_⟩ <;> first | assumption | exact grown_cell (grown_setCell (grown_refl _ _) _ _) (by assumption) (by assumption) | exact ((Ext.refl _).drew).cell (by assumption))
   refine wpAnyH_ready (rs := [7]) (by kernel_rfl) (by simp) ?_
   refine AllReadyH.cons rfl (fun K hK => ?_) AllReadyH.nil
   go_simp; go_at_call 41
   (with_reducible refine (rawElem_gen k p n q (q * W) W HWW.out _ _ _ _ _ _ bX oX (flat xs).length c3 w7 HQW.out hqn hw HQ2.out hcX hX9).mono ?_); rintro e8 w8 ⟨rfl, h8⟩; have E8 : Ext wr w8 := E7.trans h8; have q8 := E8.cell q2; have oD8 := oD.ext E8; have hpart := IntS.part (hsrc.ext E8) (W := W) (o := q * W) hW1' HQ2.out; rw [HXX.out] at hpart; have s8 := E8.size; have r8_0 := E8.cell i0; have r8_1 := E8.cell i1; have r8_2 := E8.cell i2; have r8_3 := E8.cell t0; have r8_4 := E8.cell t1; have r8_5 := E8.cell t2
   (try go_simp)
   refine hK.out _ _ ?_ (fun hHeld => ?_) <;> clear hK K
   · (refine ⟨?_, ?_, ?_, ?_, ?_, ?_⟩ <;> first | assumption | exact grown_cell (grown_setCell (grown_refl _ _) _ _) (by assumption) (by assumption) | exact ((Ext.refl _).drew).cell (by assumption))
   refine wpAnyH_ready (rs := [8]) (by kernel_rfl) (by simp) ?_
   refine AllReadyH.cons rfl (fun K hK => ?_) AllReadyH.nil
   refine step_app w8 rfl _ _ 27 rfl (.slice ad Y.length cd) (.slice (some ⟨bX, oX + q * W, none⟩) W (c3 - q * W)) rfl rfl _ (run_app_ints _ w8 w5.heap.size _ _ Y x oD8 hpart (by rw [HGL.out]; omega) (by omega)) ?_; rintro v9 w9 ⟨o9, g9, _⟩; obtain ⟨a9, c9, hv9, _, _⟩ := o9.ints.val; rw [List.length_append, HGL.out] at hv9; subst hv9; have BP9 := (BP6.ext E8).block (g9.block _ (by omega) (fun e => by have := ND.out _ e.symm; have := HS5.out; omega)); have z9 := BP9.free 2; have q9 := BP9.cell (j := 2) rfl; have u9 := BP9.lt; have E9 : Ext w1 w9 := (hE6.trans E8).only g9 (fun z hz => by have := ND.out z hz; have := HS5.out; omega); have r9_0 := E9.cell j0; have r9_1 := E9.cell j1; have r9_2 := E9.cell j2; have r9_3 := E9.cell k0; have r9_4 := E9.cell k1'; have r9_5 := E9.cell k2'
   refine hK.out _ _ ?_ (fun hHeld => ?_) <;> clear hK K
   · (refine ⟨?_, ?_, ?_, ?_, ?_, ?_⟩ <;> first | assumption | exact grown_cell (grown_setCell (grown_refl _ _) _ _) (by assumption) (by assumption) | exact ((Ext.refl _).drew).cell (by assumption))
   refine wpAnyH_take (i := 9) (v := ?_) rfl (by kernel_rfl) (by kernel_rfl) (by kernel_rfl) (fun _ _ _ h => h) (Or.inl ⟨by rfl, ?_⟩) (by assumption) ?_
   rotate_left
   · intro w hSw; (try dsimp only at hSw); go_simp; (try with_reducible rfl)
   (try go_simp)
   refine wpAnyH_ready (rs := [10]) (by kernel_rfl) (by simp) ?_
   refine AllReadyH.cons rfl (fun K hK => ?_) AllReadyH.nil
   go_simp
   refine hK.out _ _ ?_ (fun hHeld => ?_) <;> clear hK K
   · (refine ⟨?_, ?_, ?_, ?_, ?_, ?_⟩ <;> first | assumption | exact grown_cell (grown_setCell (grown_refl _ _) _ _) (by assumption) (by assumption) | exact ((Ext.refl _).drew).cell (by assumption))
   refine wpAnyH_done (by kernel_rfl) ?_ _
   go_wp2_with fail
   go_meet
   exact ⟨_, w8, w9, E8, g9, o9, BP9, rfl⟩
  refine AllReadyH.cons rfl (fun K hK => ?_) AllReadyH.nil
  go_simp; go_at_call 41
  (with_reducible refine (rawElem_gen k p n q (q * W) W HWW.out _ _ _ _ _ _ bX oX (flat xs).length c3 w7 HQW.out hqn hw HQ2.out hcX hX9).mono ?_); rintro e8 w8 ⟨rfl, h8⟩; have E8 : Ext wr w8 := E7.trans h8; have q8 := E8.cell q2; have oD8 := oD.ext E8; have hpart := IntS.part (hsrc.ext E8) (W := W) (o := q * W) hW1' HQ2.out; rw [HXX.out] at hpart; have s8 := E8.size; have r8_0 := E8.cell i0; have r8_1 := E8.cell i1; have r8_2 := E8.cell i2; have r8_3 := E8.cell t0; have r8_4 := E8.cell t1; have r8_5 := E8.cell t2
  (try go_simp)
  refine hK.out _ _ ?_ (fun hHeld => ?_) <;> clear hK K
  · (refine ⟨?_, ?_, ?_, ?_, ?_, ?_⟩ <;> first | assumption | exact grown_cell (grown_setCell (grown_refl _ _) _ _) (by assumption) (by assumption) | exact ((Ext.refl _).drew).cell (by assumption))
  refine wpAnyH_ready (rs := [1]) (by kernel_rfl) (by simp) ?_
  refine AllReadyH.cons rfl (fun K hK => ?_) AllReadyH.nil
  go_simp
  refine hK.out _ _ ?_ (fun hHeld => ?_) <;> clear hK K
  · (refine ⟨?_, ?_, ?_, ?_, ?_, ?_⟩ <;> first | assumption | exact grown_cell (grown_setCell (grown_refl _ _) _ _) (by assumption) (by assumption) | exact ((Ext.refl _).drew).cell (by assumption))
  refine wpAnyH_ready (rs := [8]) (by kernel_rfl) (by simp) ?_
  refine AllReadyH.cons rfl (fun K hK => ?_) AllReadyH.nil
  refine step_app w8 rfl _ _ 27 rfl (.slice ad Y.length cd) (.slice (some ⟨bX, oX + q * W, none⟩) W (c3 - q * W)) rfl rfl _ (run_app_ints _ w8 w5.heap.size _ _ Y x oD8 hpart (by rw [HGL.out]; omega) (by omega)) ?_; rintro v9 w9 ⟨o9, g9, _⟩; obtain ⟨a9, c9, hv9, _, _⟩ := o9.ints.val; rw [List.length_append, HGL.out] at hv9; subst hv9; have BP9 := (BP6.ext E8).block (g9.block _ (by omega) (fun e => by have := ND.out _ e.symm; have := HS5.out; omega)); have z9 := BP9.free 2; have q9 := BP9.cell (j := 2) rfl; have u9 := BP9.lt; have E9 : Ext w1 w9 := (hE6.trans E8).only g9 (fun z hz => by have := ND.out z hz; have := HS5.out; omega); have r9_0 := E9.cell j0; have r9_1 := E9.cell j1; have r9_2 := E9.cell j2; have r9_3 := E9.cell k0; have r9_4 := E9.cell k1'; have r9_5 := E9.cell k2'
  refine hK.out _ _ ?_ (fun hHeld => ?_) <;> clear hK K
  · (refine ⟨?_, ?_, ?_, ?_, ?_, ?_⟩ <;> first | assumption | exact grown_cell (grown_setCell (grown_refl _ _) _ _) (by assumption) (by assumption) | exact ((Ext.refl _).drew).cell (by assumption))
  refine wpAnyH_take (i := 9) (v := ?_) rfl (by kernel_rfl) (by kernel_rfl) (by kernel_rfl) (fun _ _ _ h => h) (Or.inl ⟨by rfl, ?_⟩) (by assumption) ?_
  rotate_left
  · intro w hSw; (try dsimp only at hSw); go_simp; (try with_reducible rfl)
  (try go_simp)
  refine wpAnyH_ready (rs := [10]) (by kernel_rfl) (by simp) ?_
  refine AllReadyH.cons rfl (fun K hK => ?_) AllReadyH.nil
  go_simp
  refine hK.out _ _ ?_ (fun hHeld => ?_) <;> clear hK K
  · (refine ⟨?_, ?_, ?_, ?_, ?_, ?_⟩ <;> first | assumption | exact grown_cell (grown_setCell (grown_refl _ _) _ _) (by assumption) (by assumption) | exact ((Ext.refl _).drew).cell (by assumption))
  refine wpAnyH_done (by kernel_rfl) ?_ _
  go_wp2_with fail
  go_meet
  exact ⟨_, w8, w9, E8, g9, o9, BP9, rfl⟩
 obtain ⟨v9, w8, w9, E8, g9, o9, BP9, rfl⟩ := hcut
 have nb : ∀ (v : Value) (l : List Int), OwnI wr w1.heap.size v l → (∀ q, v.ownBlock = some q → q < w5.heap.size ∧ q ≠ b) → OwnI (w9.setCell ⟨b, 2, none⟩ v9) w1.heap.size v l := fun v l h hq =>
  ((h.ext E8).only g9 (fun z hz e => by have := ND.out z e; have := hq z hz; omega)).setOther (fun z hz => by have := hq z hz; first | omega | (simp; omega)) _
 have o1c := nb _ _ o16 (fun z hz => by have := N1.out z hz; have := HS5.out; have := HZr.out; omega)
 have o2c := nb _ _ o26 (fun z hz => by have := N2.out z hz; have := HS5.out; have := HZr.out; omega)
 have o4c := nb _ _ o46 (fun z hz => by have := N4.out z hz; have := HS5.out; omega)
 have oIc := nb _ _ oI6 (fun z hz => by simp [Value.ownBlock] at hz; have := HS5.out; omega)
 have BPc := BP9.set 2 v9
 have oDc := o9.setBelow (p := ⟨b, 2, none⟩) (by have := HS5.out; first | omega | (simp; omega)) v9
 have Ec : Ext w1 (w9.setCell ⟨b, 2, none⟩ v9) := ((hE6.trans E8).only g9 (fun z hz => by have := ND.out z hz; have := HS5.out; omega)).setAt (by omega) _ _
 have hszc : w5.heap.size ≤ (w9.setCell ⟨b, 2, none⟩ v9).heap.size := by have := g9.size; have := E8.size; simp; omega
 have hlc : w4.heap.size < (w9.setCell ⟨b, 2, none⟩ v9).heap.size := by have := HS5.out; omega
 obtain ⟨wx, hwx⟩ : ∃ wx, w9.setCell ⟨b, 2, none⟩ v9 = wx := ⟨_, rfl⟩
 rw [hwx] at o1c o2c o4c oIc BPc oDc Ec hszc hlc ⊢
 clear nb hwx g9 o9 BP9 o16 o26 o46 oI6 BP6 oD q2 i0 i1 i2 t0 t1 t2
 have q1 := BPc.cell (j := 1) rfl
 have ql := BPc.lt
 go_wp2_with fail
 refine (nextIndex_any w1.heap.size _ _ (M.map dm) (M.map (asg (axs dm M) o σ0)) _ o2c.ints oIc (by simp) (fun z hz => by have := asg_pos HT.out.uni sM.out o z hz; omega) (fun z hz e => by simp [Value.ownBlock] at hz; have := N2.out z e; have := HZr.out; omega)).mono ?_; rintro e10 w10 ⟨rfl, oI10, g10⟩
 have e4 : (Value.slice (some ⟨w4.heap.size, 0, none⟩) M.length M.length).ownBlock = some w4.heap.size := rfl
 rw [e4] at g10
 have o1d := o1c.only g10 (fun z hz e => by injection e with e; have := N1.out z hz; have := HZr.out; omega)
 have o2d := o2c.only g10 (fun z hz e => by injection e with e; have := N2.out z hz; have := HZr.out; omega)
 have o4d := o4c.only g10 (fun z hz e => by injection e with e; have := N4.out z hz; omega)
 have BPd := BPc.block (g10.block _ ql (fun e => by injection e with e; omega))
 have oDd := oDc.only g10 (fun z hz e => by injection e with e; have := oDc.block_lt hz; have := HS5.out; omega)
 have Ed : Ext w1 w10 := Ec.only g10 (fun z hz => by injection hz with hz; omega)
 have hszd : w5.heap.size ≤ w10.heap.size := by have := g10.size; omega
 rw [next_asg HT.out.uni sM.out (by rw [HZ.out]; exact ho)] at oI10 ⊢
 by_cases hlast : o + 1 < size (axs dm M)
 · rw [if_pos hlast] at oI10 ⊢
   have HL1 : Hid (o + 1 < Z) := Lib.hid (by rw [← HZ.out]; exact hlast)
   clear hlast
   have HOI := Lib.hid oI10; clear oI10
   clear o1c o2c o4c oIc BPc oDc Ec hszc hlc q1 ql e4 hsI hsS hsrc
   go_wp2
   go_roundg (gk - 1)
   case measure => have := hg.out; have := HL1.out; omega
   case rel => exact ⟨o + 1, v9, Lib.hid (by have := hg.out; omega), HL1.out, BPd, o1d, o2d, o4d, HOI.out, by rw [hx.out]; exact oDd, Ed, hszd⟩
 rw [if_neg hlast]
 have ho1 : o + 1 = Z := by have := HZ.out; omega
 have hD : flat Ys = Y ++ x := by rw [← hx.out, ho1, ← HYl.out, List.take_length]
 rw [← hD] at oDd
 have BRd := BR.ext Ed
 have f0 := BRd.free 0
 have f1 := BRd.free 1
 have f2 := BRd.free 2
 have r0 := BRd.cell (j := 0) rfl
 have r1 := BRd.cell (j := 1) rfl
 have r2 := BRd.cell (j := 2) rfl
 have rl := BRd.lt
 have p0 := BPd.cell (j := 0) rfl
 have p1' := BPd.cell (j := 1) rfl
 have p2' := BPd.cell (j := 2) rfl
 have pl := BPd.lt
 have HO1 := Lib.hid ho1; have HDD := Lib.hid hD
 clear ho1 hD hlast oI10 o1c o2c o4c oIc BPc oDc Ec hszc hlc q1 ql e4 hsI hsS hsrc
 obtain ⟨a9, c9, rfl, _, _⟩ := oDd.ints.val
 go_wp2
 refine bodyPost_ret (v := .agg #[.slice a1 M.length k1, .slice a2 M.length k2, .slice a9 (flat Ys).length c9]) (by simp [results, Tryz.results84, go_sem, *]) rfl ?_
 have hs3 := HS1.out
 have hlt3 : w.heap.size + 1 + 1 < w1.heap.size := by omega
 have hlt4 : w.heap.size + 1 + 1 < w5.heap.size := by have := HS5.out; have := E4.size; omega
 rw [HYs.out]
 refine ⟨_, rfl, ⟨_, _, _, rfl, ?_, ?_, ?_, fun z hz => ⟨fun e => ?_, fun e => ?_⟩, fun z hz e => ?_⟩, ?_⟩
 · exact (((o1d.setBelow hlt3 _).setBelow hlt3 _).setBelow hlt3 _).mono (by omega)
 · exact (((o2d.setBelow hlt3 _).setBelow hlt3 _).setBelow hlt3 _).mono (by omega)
 · exact (((oDd.setBelow hlt4 _).setBelow hlt4 _).setBelow hlt4 _).mono (by have := HS5.out; have := E4.size; omega)
 · exact N12.out z hz e
 · have := N1.out z hz; have := oDd.block_lt e; have := HS5.out; have := HZr.out; omega
 · have := N2.out z hz; have := oDd.block_lt e; have := HS5.out; have := HZr.out; omega
 exact (((h1.trans Ed).setAt (by omega) _ _).setAt (by omega) _ _).setAt (by omega) _ _
end
end Go.Proofs.YtlgjddgajdjllaaGreat
