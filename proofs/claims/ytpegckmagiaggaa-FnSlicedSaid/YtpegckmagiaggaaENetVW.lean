/- cappedProduct, openAxes, NetworkValue of the program. -/
import Derived.Test.YtpegckmagiaggaaEBase
import Derived.Test.YtpegckmagiaggaaENetW
import Derived.Test.YtpegckmagiaggaaEG5
import Derived.Test.YtpegckmagiaggaaEG13
import Derived.Test.YtpegckmagiaggaaEContrW
import Derived.Test.YtpegckmagiaggaaETenW
namespace Go.Proofs.Ytpegckmagiaggaa
open Go.RowKit
set_option linter.unusedSimpArgs false
set_option linter.unusedVariables false
theorem prodL_take_step {D : List Int} {j : Nat} {d : Int} (h : D[j]? = some d) : prodL (D.take (j + 1)) = prodL (D.take j) * d := by
  rw [take_snoc' h, prodL_append]
  simp [prodL]
theorem prodL_take_le {D : List Int} (hd : ∀ d ∈ D, 1 ≤ d ∧ d ≤ 8) (j : Nat) : 1 ≤ prodL (D.take j) ∧ prodL (D.take j) ≤ prodL D := by
  have h1 := prodL_pos (D := D.take j) fun x hx => hd x (List.mem_of_mem_take hx)
  have h2 := prodL_pos (D := D.drop j) fun x hx => hd x (List.mem_of_mem_drop hx)
  have h3 : prodL (D.take j) * prodL (D.drop j) = prodL D := by rw [← prodL_append, List.take_append_drop]
  have h4 : prodL (D.take j) * 1 ≤ prodL (D.take j) * prodL (D.drop j) := Int.mul_le_mul_of_nonneg_left h2 (by omega)
  omega
set_option maxHeartbeats 2000000 in
theorem cappedProduct_any (v : Value) (D : List Int) (c : Int) (w : World) (hD : IntS w v D) (hd : ∀ d ∈ D, 1 ≤ d ∧ d ≤ 8) (hp : prodL D ≤ 4096) (hc : 4096 ≤ c) (hc2 : c ≤ 1099511627776) : Calls Try.prog 105 #[v, .int .i64 c] w fun e w' =>
    e = .returned (.int .i64 (prodL D)) ∧ Ext w w' := by
  obtain ⟨aD, cD, rfl, hcD1, hcD2⟩ := hD.val
  obtain ⟨P, hP⟩ : ∃ P, prodL D = P := ⟨_, rfl⟩
  rw [hP] at hp ⊢
  have HP := Lib.hid hP; have HDD := Lib.hid hd; clear hP hd
  go_enter Try.func105, Try.ntmps105
  go_wp2_with fail
  go_loopw [5, 10] (fun q i wr => ∃ (j : Nat) (z : Int), j ≤ D.length ∧ i = .int .i64 (j : Int) ∧ q = .int .i64 z ∧ 1 ≤ z ∧ z ≤ P ∧ Hid (prodL (D.take j) = z) ∧ Ext w wr) (fun q i wr => D.length - (RowKit.intOf i).toNat)
  case atStart => exact ⟨0, 1, Nat.zero_le _, rfl, rfl, by omega, by have := (prodL_take_le HDD.out 0).2; rw [HP.out, List.take_zero] at this; exact this, Lib.hid rfl, Ext.refl w⟩
  case round =>
    obtain ⟨j, z, hj, rfl, rfl, hz0, hz1, HZ, hE⟩ := hrel
    by_cases hlt : j < D.length
    · obtain ⟨bD, oD, d, rfl, hc0, hx, _⟩ := hD.get hlt
      have hcd := hE.cell hc0
      have hst := prodL_take_step hx
      rw [HZ.out] at hst
      have hle := (prodL_take_le HDD.out (j + 1))
      rw [HP.out, hst] at hle
      have HST := Lib.hid hst
      obtain ⟨z2, hz2⟩ : ∃ z2, z * d = z2 := ⟨_, rfl⟩
      rw [hz2] at hle HST
      have hwr : IntKind.i64.wrap z2 = z2 := by rw [IntKind.wrap_i64]; omega
      have hmin : min z2 c = z2 := Int.min_eq_left (by omega)
      have hn1 : z2 ≤ c := by omega
      have hn2 : ¬ c < z2 := by omega
      obtain ⟨hle1, hle2⟩ := hle
      clear hst hx hc0
      go_wp2_with fail
      go_roundw
      case rel => exact ⟨j + 1, z2, by omega, by go_num, by first | rfl | go_num, hle1, hle2, HST, hE⟩
      case measure => simp [RowKit.intOf]; omega
    · have hje : j = D.length := by omega
      subst hje
      have h := HZ.out
      rw [List.take_length, HP.out] at h
      have HE := Lib.hid h; clear h
      go_wp2
      go_ret
      exact ⟨by rw [HE.out]; rfl, hE⟩
set_option maxRecDepth 100000 in
set_option maxHeartbeats 4000000 in
theorem openAxes_any {k p n : Int} (hr : ringOk k p n = true) {dm : Int → Int} {U : List Int} {ts : List (NT k p n)} {op : List Int} (hN : IsN k p n dm U ts op) (tv ov : Value) (w : World) (hT : TensS w tv (ts.map (tenOf dm))) (hO : IntS w ov op) :
    Calls Try.prog 106 #[.agg #[.int .i64 k, .int .i64 p, .int .i64 n, tv, ov]] w fun e w' => ∃ x y, e = .returned (.agg #[x, y, .slice none 0 0]) ∧ Held w w' [aI x op, aI y (op.map dm)] := by
  have hT0 := hT
  have hO0 := hO
  obtain ⟨m, hm⟩ : ∃ m, ts.length = m := ⟨_, rfl⟩
  obtain ⟨aV, cV, rfl, hcT1, hcT2⟩ := hT.val
  obtain ⟨aO, cO, rfl, hcO1, hcO2⟩ := hO.val
  rw [List.length_map, hm] at hT hT0 hcT1
  rw [List.length_map, hm]
  have hm12 : m ≤ 12 := by rw [← hm]; exact hN.len
  have hop12 : op.length ≤ 12 := hN.rank
  have HM := Lib.hid hm; have HR := Lib.hid hr; have HN := Lib.hid hN; have HD3 := Lib.hid hN.dims3; clear hm hr hN
  have hTl : Hid ((ts.map (tenOf dm)).length = m) := Lib.hid (by rw [List.length_map]; exact HM.out)
  go_enter Try.func106, Try.ntmps106
  go_upto_region 1 with fail
  have hH : Held w w [] := Held.new (Ext.refl w) 0
  have hB : Held w (w.alloc (.cells #[.int .i64 k, .int .i64 p, .int .i64 n, .slice aV m cV, .slice aO op.length cO] 29)) [aB (w.heap.size) 29 [.int .i64 k, .int .i64 p, .int .i64 n, .slice aV m cV, .slice aO op.length cO]] := by
    have h := (hH.mores 1).addB 0 #[.int .i64 k, .int .i64 p, .int .i64 n, .slice aV m cV, .slice aO op.length cO] 29
    exact h
  have hsz : (w.alloc (.cells #[.int .i64 k, .int .i64 p, .int .i64 n, .slice aV m cV, .slice aO op.length cO] 29)).heap.size = w.heap.size + 1 := by simp
  generalize w.alloc (.cells #[.int .i64 k, .int .i64 p, .int .i64 n, .slice aV m cV, .slice aO op.length cO] 29) = wn1 at hB hsz ⊢
  replace hH := hB; have HSZwn1 := Lib.hid hsz; clear hB hsz
  have hB : Held w (wn1.alloc (.cells #[.slice none 0 0, .slice none 0 0, .slice none 0 0] 32)) [aB (w.heap.size) 29 [.int .i64 k, .int .i64 p, .int .i64 n, .slice aV m cV, .slice aO op.length cO], aB (w.heap.size + 1) 32 [.slice none 0 0, .slice none 0 0, .slice none 0 0]] := by
    have h := (hH.mores 1).addB 1 #[.slice none 0 0, .slice none 0 0, .slice none 0 0] 32
    rw [HSZwn1.out] at h
    exact h
  have hsz : (wn1.alloc (.cells #[.slice none 0 0, .slice none 0 0, .slice none 0 0] 32)).heap.size = w.heap.size + 1 + 1 := by rw [← HSZwn1.out]; simp
  generalize wn1.alloc (.cells #[.slice none 0 0, .slice none 0 0, .slice none 0 0] 32) = wn2 at hB hsz ⊢
  replace hH := hB; have HSZwn2 := Lib.hid hsz; clear hB hsz
  have q0_0 := (hH.blk (k := 0) rfl).cell (j := 0) rfl
  have q0_1 := (hH.blk (k := 0) rfl).cell (j := 1) rfl
  have q0_2 := (hH.blk (k := 0) rfl).cell (j := 2) rfl
  have q0_3 := (hH.blk (k := 0) rfl).cell (j := 3) rfl
  have q0_4 := (hH.blk (k := 0) rfl).cell (j := 4) rfl
  have l0_ := (hH.blk (k := 0) rfl).lt
  have q1_0 := (hH.blk (k := 1) rfl).cell (j := 0) rfl
  have q1_1 := (hH.blk (k := 1) rfl).cell (j := 1) rfl
  have q1_2 := (hH.blk (k := 1) rfl).cell (j := 2) rfl
  have l1_ := (hH.blk (k := 1) rfl).lt
  go_wp2_with fail
  clear q0_0 q0_1 q0_2 q0_3 q0_4 l0_ q1_0 q1_1 q1_2 l1_
  refine (dimsOf_any HD3.out (by rw [hTl.out]; omega) _ _ (hT.ext hH.ext)).mono ?_; rintro ewn3 wn3 ⟨rfl, hwn3⟩
  rw [occ3_ten]
  replace hH : Held w wn3 [aB (w.heap.size) 29 [.int .i64 k, .int .i64 p, .int .i64 n, .slice aV m cV, .slice aO op.length cO], aB (w.heap.size + 1) 32 [.slice none 0 0, .slice none 0 0, .slice none 0 0]] := hH.grow hwn3
  clear hwn3
  go_upto_region 2 with (first | (refine wpList_alloc_arr rfl rfl ?_) | (refine wpList_store_arr (A0 := (List.replicate 100 0)) rfl _ _ rfl rfl rfl (by have h := Blk.new wn3 (arrV (List.replicate 100 0)) 99; rw [arrV_list] at h; exact h) (arrL_length _ _) (List.length_replicate ..) ?_; rintro wn4 hg hB hs))
  replace hH : Held w wn4 [aB (w.heap.size) 29 [.int .i64 k, .int .i64 p, .int .i64 n, .slice aV m cV, .slice aO op.length cO], aB (w.heap.size + 1) 32 [.slice none 0 0, .slice none 0 0, .slice none 0 0], aB (wn3.heap.size) 99 (ints (arrL dm (occ ts)))] := (hH.mores 1).add 2 (((Ext.refl _).alloc _).only hg (fun q hq => by cases hq; exact Nat.le_refl _)) hB (fun q hq => by simp [aB] at hq; subst hq; exact Nat.le_refl _)
  clear hg hB hs
  have hB0 := hH.blk (k := 2) rfl
  have q0_0 := (hH.blk (k := 0) rfl).cell (j := 0) rfl
  have q0_1 := (hH.blk (k := 0) rfl).cell (j := 1) rfl
  have q0_2 := (hH.blk (k := 0) rfl).cell (j := 2) rfl
  have q0_3 := (hH.blk (k := 0) rfl).cell (j := 3) rfl
  have q0_4 := (hH.blk (k := 0) rfl).cell (j := 4) rfl
  have l0_ := (hH.blk (k := 0) rfl).lt
  have q1_0 := (hH.blk (k := 1) rfl).cell (j := 0) rfl
  have q1_1 := (hH.blk (k := 1) rfl).cell (j := 1) rfl
  have q1_2 := (hH.blk (k := 1) rfl).cell (j := 2) rfl
  have l1_ := (hH.blk (k := 1) rfl).lt
  go_wp2_with (first | (refine wpList_load_arr rfl _ rfl rfl hB0 (arrL_length _ _) ?_))
  clear q0_0 q0_1 q0_2 q0_3 q0_4 l0_ q1_0 q1_1 q1_2 l1_
  clear hB0
  refine (axesOf_any HN.out.opIn (by omega) _ _ (hO.ext hH.ext)).mono ?_; rintro ewn5 wn5 ⟨x1, y1, rfl, hJ⟩
  obtain ⟨ax, cx, rfl, _, _⟩ := (hJ.ints (k := 0) rfl).val
  obtain ⟨ay, cy, rfl, _, _⟩ := (hJ.ints (k := 1) rfl).val
  rw [List.length_map] at hJ ⊢
  replace hH : Held w wn5 [aB (w.heap.size) 29 [.int .i64 k, .int .i64 p, .int .i64 n, .slice aV m cV, .slice aO op.length cO], aB (w.heap.size + 1) 32 [.slice none 0 0, .slice none 0 0, .slice none 0 0], aB (wn3.heap.size) 99 (ints (arrL dm (occ ts))), aI (.slice ax op.length cx) op, aI (.slice ay op.length cy) (op.map dm)] := hH.join hJ (fun q hq => by cases hq)
  clear hJ
  have q0_0 := (hH.blk (k := 0) rfl).cell (j := 0) rfl
  have q0_1 := (hH.blk (k := 0) rfl).cell (j := 1) rfl
  have q0_2 := (hH.blk (k := 0) rfl).cell (j := 2) rfl
  have q0_3 := (hH.blk (k := 0) rfl).cell (j := 3) rfl
  have q0_4 := (hH.blk (k := 0) rfl).cell (j := 4) rfl
  have l0_ := (hH.blk (k := 0) rfl).lt
  have q1_0 := (hH.blk (k := 1) rfl).cell (j := 0) rfl
  have f1_0 := (hH.blk (k := 1) rfl).free 0
  have q1_1 := (hH.blk (k := 1) rfl).cell (j := 1) rfl
  have f1_1 := (hH.blk (k := 1) rfl).free 1
  have q1_2 := (hH.blk (k := 1) rfl).cell (j := 2) rfl
  have f1_2 := (hH.blk (k := 1) rfl).free 2
  have l1_ := (hH.blk (k := 1) rfl).lt
  go_wp2_with fail
  refine bodyPost_ret (v := .agg #[.slice ax op.length cx, .slice ay op.length cy, .slice none 0 0]) (by simp [results, Try.results106, go_sem, *]) rfl ?_
  exact ⟨_, _, rfl, (hH.setB3' (k := 1) rfl (.slice ax op.length cx) (.slice ay op.length cy) (.slice none 0 0)).sub (.cons _ (.cons _ (.cons _ (.cons_cons _ (.cons_cons _ .slnil)))))⟩
end Go.Proofs.Ytpegckmagiaggaa
