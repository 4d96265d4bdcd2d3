/- StackTensors of the program. -/
import Derived.Test.YtabeciopggofkaaZBase
import Derived.Test.YtabeciopggofkaaZLinW
import Derived.Test.YtabeciopggofkaaZG15
import Derived.Test.YtabeciopggofkaaZG5
namespace Go.Proofs.Ytabeciopggofkaa
open Go.RowKit
set_option linter.unusedSimpArgs false
set_option linter.unusedVariables false
section
variable {k p n : Int} (hr : ringOk k p n = true)
theorem stackRow_le (l : List (List (El k p n))) (o : Nat) : (stackRow l o).length ≤ l.length := List.length_filterMap_le ..
theorem stackXs_le (l : List (List (El k p n))) : ∀ m : Nat, (stackXs l m).length ≤ m * l.length
  | 0 => by simp [stackXs]
  | m + 1 => by rw [stackXs_step, List.length_append, Nat.succ_mul]; have := stackXs_le l m; have := stackRow_le l m; omega
theorem stack_small {l : List (List (El k p n))} {o q W : Nat} (hl : l.length ≤ 8) (ho : o ≤ 4096) (hW : W ≤ 6) : (stackXs l o ++ stackRow (l.take q) o).length * W ≤ 300000 := by
  have h1 := stackXs_le l o
  have h2 := stackRow_le (l.take q) o
  have h3 : o * l.length ≤ 4096 * 8 := Nat.mul_le_mul ho hl
  have h4 : (l.take q).length ≤ 8 := by rw [List.length_take]; omega
  have h5 : (stackXs l o ++ stackRow (l.take q) o).length ≤ 40000 := by rw [List.length_append]; omega
  have := Nat.mul_le_mul h5 hW
  omega
theorem stackRow_take {l : List (List (El k p n))} {o q : Nat} {ys : List (El k p n)} {y : El k p n} (h : l[q]? = some ys) (hy : ys[o]? = some y) : stackRow (l.take (q + 1)) o = stackRow (l.take q) o ++ [y] := by
  have e : l.take (q + 1) = l.take q ++ [ys] := by rw [List.take_add_one, h]; rfl
  unfold stackRow
  rw [e, List.filterMap_append]
  simp [hy]
include hr
set_option maxRecDepth 100000 in
set_option maxHeartbeats 8000000 in
theorem stackTensors_any {dm : Int → Int} {U L : List Int} {xss : List (List (El k p n))} (hx : ∀ xs ∈ xss, IsT k p n dm U L xs) (hm1 : 1 ≤ xss.length) (hm8 : xss.length ≤ 8) (c : Int) (hs : Sub U (L ++ [c])) (hdc : dm c = (xss.length : Int)) (v : Value) (w : World) (hl : TensS w v (xss.map fun xs => (L, L.map dm, flat xs))) :
    Calls Try.prog 41 #[ringV k p n, v, .int .i64 c] w fun e w' => ∃ u, e = .returned (.tuple #[u, .bool true]) ∧ OwnT w' w.heap.size u (L ++ [c]) ((L ++ [c]).map dm) (flat (stackXs xss (size (axs dm L)))) ∧ Ext w w' := by
  obtain ⟨m, hm⟩ : ∃ m, xss.length = m := ⟨_, rfl⟩
  obtain ⟨ts, hts⟩ : ∃ ts : List Ten3, (xss.map fun xs => (L, L.map dm, flat xs)) = ts := ⟨_, rfl⟩
  have htl : ts.length = m := by rw [← hts, List.length_map, hm]
  rw [hts] at hl
  rw [hm] at hm1 hm8 hdc
  obtain ⟨aV, cV, rfl, hcV1, hcV2⟩ := hl.val
  rw [htl] at hcV1 hl ⊢
  have HTS := Lib.hid hts; have HTL := Lib.hid htl; have HM := Lib.hid hm; clear hts htl hm
  have hget : ∀ j, j < m → ∃ ys, xss[j]? = some ys ∧ ts[j]? = some (L, L.map dm, flat ys) ∧ IsT k p n dm U L ys := fun j hj => by
    obtain ⟨ys, hys⟩ : ∃ ys, xss[j]? = some ys := ⟨_, List.getElem?_eq_getElem (by rw [HM.out]; exact hj)⟩
    exact ⟨ys, hys, by rw [← HTS.out, List.getElem?_map, hys]; rfl, hx ys (List.mem_of_getElem? hys)⟩
  have HG := Lib.hid hget; clear hget
  obtain ⟨x0, hx0, ht0, hT0⟩ := HG.out 0 (by omega)
  obtain ⟨bV, oV, v1, v2, v3, t0, hV, hc0, hc1, hc2, ht0', hT⟩ := hl.get (i := 0) (by rw [HTL.out]; omega)
  cases hV
  obtain rfl : t0 = (L, L.map dm, flat x0) := by rw [ht0] at ht0'; exact (Option.some.inj ht0').symm
  have HT0 := Lib.hid hT0; clear ht0 ht0' hx0 hT0
  obtain ⟨p1, n1, cp1, p2, n2, cp2, p3, n3, cp3, hvv⟩ := hT.shape
  simp at hvv
  obtain ⟨rfl, rfl, rfl⟩ := hvv
  have hT' := hT
  obtain ⟨_, _, _, hvv, hTL, hTD, hTX⟩ := hT.val
  simp at hvv
  obtain ⟨rfl, rfl, rfl⟩ := hvv
  obtain ⟨_, _, hvv, _, _⟩ := hTL.val
  cases hvv
  obtain ⟨_, _, hvv, _, _⟩ := hTD.val
  rw [List.length_map] at hvv
  cases hvv
  obtain ⟨_, _, hvv, _, _⟩ := hTX.val
  cases hvv
  simp only [Nat.mul_zero, Nat.add_zero] at hc0 hc1 hc2
  have hrk : L.length ≤ 12 := HT0.out.ax.rank
  have HR := Lib.hid hr
  have HRO : Hid (ringOk k p n = true) := HR
  have HYT := Lib.hid (HT0.out.yes hr)
  have hlt1 : decide ((m : Int) < 1) = false := by rw [decide_eq_false_iff_not]; omega
  have hlt8 : decide (8 < (m : Int)) = false := by rw [decide_eq_false_iff_not]; omega
  have hm0 : 0 < m := by omega
  obtain ⟨LC, hLC⟩ : ∃ q, L ++ [c] = q := ⟨_, rfl⟩
  rw [hLC] at hs ⊢
  have HLC := Lib.hid hLC; clear hLC
  obtain ⟨DC, hDC⟩ : ∃ q, L.map dm ++ [(m : Int)] = q := ⟨_, rfl⟩
  have HDC := Lib.hid hDC; clear hDC
  have HLD : Hid (LC.map dm = DC) := Lib.hid (by rw [← HLC.out, ← HDC.out, List.map_append, List.map_cons, List.map_nil, hdc])
  rw [HLD.out]
  have HAX := Lib.hid (HT0.out.uni.ax hs); rw [HLD.out] at HAX
  obtain ⟨PZ, hPZ⟩ : ∃ q, tsize LC DC = q := ⟨_, rfl⟩
  have hpz1 : (PZ == (-1)) = false := by rw [beq_eq_false_iff_ne, ← hPZ, HAX.out.tsize]; have := HAX.out.pos; omega
  have HPZ := Lib.hid hPZ; clear hPZ
  obtain ⟨Z, hZ⟩ : ∃ Z, size (axs dm L) = Z := ⟨_, rfl⟩
  have hZ1 : prodL (L.map dm) = (Z : Int) := by rw [← hZ]; exact (HT0.out.uni.size HT0.out.sub).symm
  have hZ2 : Z ≤ 4096 := by rw [← hZ]; exact HT0.out.small
  rw [hZ]
  have HZ1 := Lib.hid hZ1; have HZ := Lib.hid hZ; clear hZ hZ1
  have HDL := Lib.hid HT0.out.ax.dims; have HDS := Lib.hid HT0.out.ax.size
  have hLC9 : LC.length ≤ 12 := HAX.out.rank
  obtain ⟨P0, W, hP, hW, hP1, hP2, hW1', hW6, hXl⟩ := (HT0.out.ok hr).nat hr
  have HWW := Lib.hid hW; have hw := ringOk_wide hr
  clear hP hP1 hP2 hXl hW
  have HX8 : Hid (xss.length ≤ 8) := Lib.hid (by rw [HM.out]; exact hm8)
  clear hdc
  generalize hW1 : ((w.alloc (.cells #[.int .i64 k, .int .i64 p, .int .i64 n] 24)).alloc (.cells #[.slice none 0 0, .slice none 0 0, .slice none 0 0] 31)) = w1
  have h1 : Ext w w1 := by rw [← hW1]; exact (by repeat' (first | (with_reducible exact Ext.refl _) | (with_reducible assumption) | (with_reducible apply Ext.alloc) | (with_reducible apply Ext.drew) | (with_reducible apply Ext.drewN) | (refine Ext.setAt ?_ (by omega) _ _) | (refine Ext.trans ?_ (by assumption))))
  have Br : Blk w1 (w.heap.size) 24 [.int .i64 k, .int .i64 p, .int .i64 n] := by rw [← hW1]; exact ((Blk.newB (c := #[_, _, _]) (by simp)).alloc _)
  have Bz : Blk w1 (w.heap.size + 1) 31 [.slice none 0 0, .slice none 0 0, .slice none 0 0] := by rw [← hW1]; exact (Blk.newB (c := #[_, _, _]) (by simp))
  have HS1 : Hid (w1.heap.size = w.heap.size + 2) := Lib.hid (by rw [← hW1]; simp)
  have HW := Lib.hid hW1; clear hW1
  go_enter Try.func41, Try.ntmps41
  go_wp2_with fail
  rw [HW.out]
  have Kr := Br
  have Kz := Bz
  have kr_0 := Kr.cell (j := 0) rfl
  have kr_1 := Kr.cell (j := 1) rfl
  have kr_2 := Kr.cell (j := 2) rfl
  have kv_0 := h1.cell hc0
  have kv_1 := h1.cell hc1
  have kv_2 := h1.cell hc2
  have hH : Held w1 w1 [] := Held.new (Ext.refl w1) 0
  clear Br Bz
  go_upto_region 1 with fail
  refine wp_region_steps ?Fa (fun b t wx => Held w1 wx [] ∧ (b 0 = true → t 0 = .agg #[.int .i64 k, .int .i64 p, .int .i64 n]) ∧ (b 1 = true → t 1 = .bool true) ∧ (b 2 = true → t 2 = .bool false) ∧ (b 3 = true → t 3 = .bool false) ∧ (b 4 = true → t 4 = .slice (some ⟨bV, oV, none⟩) m cV) ∧ (b 5 = true → t 5 = .int .i64 (m : Int)) ∧ (b 6 = true → t 6 = .bool false) ∧ (b 7 = true → t 7 = .bool false) ∧ (b 8 = true → t 8 = .bool false) ∧ (b 9 = true → t 9 = .slice (some ⟨bV, oV, none⟩) m cV) ∧ (b 10 = true → t 10 = .int .i64 (m : Int)) ∧ (b 11 = true → t 11 = .bool false) ∧ (b 12 = true → t 12 = .bool false) ∧ (b 13 = true → t 13 = .bool false) ∧ (b 14 = true → t 14 = .agg #[.int .i64 k, .int .i64 p, .int .i64 n]) ∧ (b 15 = true → t 15 = .slice (some ⟨bV, oV, none⟩) m cV) ∧ (b 16 = true → t 16 = .pointer (some ⟨bV, oV, none⟩)) ∧ (b 17 = true → t 17 = .agg #[.slice p1 L.length cp1, .slice p2 L.length cp2, .slice p3 (flat x0).length cp3]) ∧ (b 18 = true → t 18 = .bool true) ∧ (b 19 = true → t 19 = .bool false) ∧ (b 20 = true → t 20 = .bool false)) ?hFa (by kernel_rfl) (by kernel_rfl) ?hJa ?hSa ?hEa
  (case hFa => intro t; simp only [putAll, Act.put, List.setIfInBounds_toArray, List.set_cons_zero, List.set_cons_succ, Nat.reduceAdd, Nat.zero_add]; exact rfl)
  case hJa => exact ⟨hH.grow ((Ext.refl _).drew), fun h => absurd h Bool.false_ne_true, fun h => absurd h Bool.false_ne_true, fun h => absurd h Bool.false_ne_true, fun h => absurd h Bool.false_ne_true, fun h => absurd h Bool.false_ne_true, fun h => absurd h Bool.false_ne_true, fun h => absurd h Bool.false_ne_true, fun h => absurd h Bool.false_ne_true, fun h => absurd h Bool.false_ne_true, fun h => absurd h Bool.false_ne_true, fun h => absurd h Bool.false_ne_true, fun h => absurd h Bool.false_ne_true, fun h => absurd h Bool.false_ne_true, fun h => absurd h Bool.false_ne_true, fun h => absurd h Bool.false_ne_true, fun h => absurd h Bool.false_ne_true, fun h => absurd h Bool.false_ne_true, fun h => absurd h Bool.false_ne_true, fun h => absurd h Bool.false_ne_true, fun h => absurd h Bool.false_ne_true, fun h => absurd h Bool.false_ne_true⟩
  case hSa =>
    as_aux_lemma =>
      refine AllSteps.cons (j := 1) rfl (fun b t wx hJ hb hd hcl Kc hK => ?_) ?_
      · obtain ⟨hH, v0, v1, v2, v3, v4, v5, v6, v7, v8, v9, v10, v11, v12, v13, v14, v15, v16, v17, v18, v19, v20⟩ := hJ
        have c_kr_0 := hH.ext.cell kr_0
        have c_kr_1 := hH.ext.cell kr_1
        have c_kr_2 := hH.ext.cell kr_2
        have c_kv_0 := hH.ext.cell kv_0
        have c_kv_1 := hH.ext.cell kv_1
        have c_kv_2 := hH.ext.cell kv_2
        go_simp
        refine hK.out _ ?_ _ ?_ ?_; rotate_left 2
        · rfl
        exact ⟨hH, fun _ => rfl, v1, v2, v3, v4, v5, v6, v7, v8, v9, v10, v11, v12, v13, v14, v15, v16, v17, v18, v19, v20⟩
      refine AllSteps.cons (j := 2) rfl (fun b t wx hJ hb hd hcl Kc hK => ?_) ?_
      · obtain ⟨hH, v0, v1, v2, v3, v4, v5, v6, v7, v8, v9, v10, v11, v12, v13, v14, v15, v16, v17, v18, v19, v20⟩ := hJ
        have d0 : b 0 = true := hd.out 0 (by kernel_rfl)
        have r0 := v0 d0
        go_simp
        go_at_call 79
        refine (ringOk_impl k p n _).mono ?_; rintro e1 w1 ⟨rfl, h1'⟩
        rw [HRO.out]
        (try go_simp)
        refine hK.out _ ?_ _ ?_ ?_; rotate_left 2
        · (try simp only [r0]); rfl
        exact ⟨by have hX := hH.grow h1'; (try simp only [List.set_cons_zero, List.set_cons_succ] at hX); simpa only [updB, updV, blkOf_mk, tup0_mk, partsOf3, Nat.reduceBEq, cond_true, cond_false, hb, d0, r0] using hX, v0, fun _ => rfl, v2, v3, v4, v5, v6, v7, v8, v9, v10, v11, v12, v13, v14, v15, v16, v17, v18, v19, v20⟩
      refine AllSteps.cons (j := 3) rfl (fun b t wx hJ hb hd hcl Kc hK => ?_) ?_
      · obtain ⟨hH, v0, v1, v2, v3, v4, v5, v6, v7, v8, v9, v10, v11, v12, v13, v14, v15, v16, v17, v18, v19, v20⟩ := hJ
        have d1 : b 1 = true := hd.out 1 (by kernel_rfl)
        have r1 := v1 d1
        have c_kr_0 := hH.ext.cell kr_0
        have c_kr_1 := hH.ext.cell kr_1
        have c_kr_2 := hH.ext.cell kr_2
        have c_kv_0 := hH.ext.cell kv_0
        have c_kv_1 := hH.ext.cell kv_1
        have c_kv_2 := hH.ext.cell kv_2
        go_simp
        refine hK.out _ ?_ _ ?_ ?_; rotate_left 2
        · (try simp only [r1]); rfl
        exact ⟨hH, v0, v1, fun _ => rfl, v3, v4, v5, v6, v7, v8, v9, v10, v11, v12, v13, v14, v15, v16, v17, v18, v19, v20⟩
      refine AllSteps.cons (j := 4) rfl (fun b t wx hJ hb hd hcl Kc hK => ?_) ?_
      · obtain ⟨hH, v0, v1, v2, v3, v4, v5, v6, v7, v8, v9, v10, v11, v12, v13, v14, v15, v16, v17, v18, v19, v20⟩ := hJ
        have d1 : b 1 = true := hd.out 1 (by kernel_rfl)
        have d2 : b 2 = true := hd.out 2 (by kernel_rfl)
        have r1 := v1 d1
        have r2 := v2 d2
        have c_kr_0 := hH.ext.cell kr_0
        have c_kr_1 := hH.ext.cell kr_1
        have c_kr_2 := hH.ext.cell kr_2
        have c_kv_0 := hH.ext.cell kv_0
        have c_kv_1 := hH.ext.cell kv_1
        have c_kv_2 := hH.ext.cell kv_2
        go_simp
        refine hK.out _ ?_ _ ?_ ?_; rotate_left 2
        · (try simp only [r1, r2]); rfl
        exact ⟨hH, v0, v1, v2, fun _ => rfl, v4, v5, v6, v7, v8, v9, v10, v11, v12, v13, v14, v15, v16, v17, v18, v19, v20⟩
      refine AllSteps.cons (j := 5) rfl (fun b t wx hJ hb hd hcl Kc hK => ?_) ?_
      · obtain ⟨hH, v0, v1, v2, v3, v4, v5, v6, v7, v8, v9, v10, v11, v12, v13, v14, v15, v16, v17, v18, v19, v20⟩ := hJ
        have d3 : b 3 = true := hd.out 3 (by kernel_rfl)
        have r3 := v3 d3
        have c_kr_0 := hH.ext.cell kr_0
        have c_kr_1 := hH.ext.cell kr_1
        have c_kr_2 := hH.ext.cell kr_2
        have c_kv_0 := hH.ext.cell kv_0
        have c_kv_1 := hH.ext.cell kv_1
        have c_kv_2 := hH.ext.cell kv_2
        go_simp
        refine hK.out _ ?_ _ ?_ ?_; rotate_left 2
        · (try simp only [r3]); rfl
        exact ⟨hH, v0, v1, v2, v3, fun _ => rfl, v5, v6, v7, v8, v9, v10, v11, v12, v13, v14, v15, v16, v17, v18, v19, v20⟩
      refine AllSteps.cons (j := 6) rfl (fun b t wx hJ hb hd hcl Kc hK => ?_) ?_
      · obtain ⟨hH, v0, v1, v2, v3, v4, v5, v6, v7, v8, v9, v10, v11, v12, v13, v14, v15, v16, v17, v18, v19, v20⟩ := hJ
        have d3 : b 3 = true := hd.out 3 (by kernel_rfl)
        have d4 : b 4 = true := hd.out 4 (by kernel_rfl)
        have r3 := v3 d3
        have r4 := v4 d4
        have c_kr_0 := hH.ext.cell kr_0
        have c_kr_1 := hH.ext.cell kr_1
        have c_kr_2 := hH.ext.cell kr_2
        have c_kv_0 := hH.ext.cell kv_0
        have c_kv_1 := hH.ext.cell kv_1
        have c_kv_2 := hH.ext.cell kv_2
        go_simp
        refine hK.out _ ?_ _ ?_ ?_; rotate_left 2
        · (try simp only [r3, r4]); rfl
        exact ⟨hH, v0, v1, v2, v3, v4, fun _ => rfl, v6, v7, v8, v9, v10, v11, v12, v13, v14, v15, v16, v17, v18, v19, v20⟩
      refine AllSteps.cons (j := 7) rfl (fun b t wx hJ hb hd hcl Kc hK => ?_) ?_
      · obtain ⟨hH, v0, v1, v2, v3, v4, v5, v6, v7, v8, v9, v10, v11, v12, v13, v14, v15, v16, v17, v18, v19, v20⟩ := hJ
        have d3 : b 3 = true := hd.out 3 (by kernel_rfl)
        have d5 : b 5 = true := hd.out 5 (by kernel_rfl)
        have r3 := v3 d3
        have r5 := v5 d5
        have c_kr_0 := hH.ext.cell kr_0
        have c_kr_1 := hH.ext.cell kr_1
        have c_kr_2 := hH.ext.cell kr_2
        have c_kv_0 := hH.ext.cell kv_0
        have c_kv_1 := hH.ext.cell kv_1
        have c_kv_2 := hH.ext.cell kv_2
        go_simp
        refine hK.out _ ?_ _ ?_ ?_; rotate_left 2
        · (try simp only [r3, r5]); rfl
        exact ⟨hH, v0, v1, v2, v3, v4, v5, fun _ => rfl, v7, v8, v9, v10, v11, v12, v13, v14, v15, v16, v17, v18, v19, v20⟩
      refine AllSteps.cons (j := 8) rfl (fun b t wx hJ hb hd hcl Kc hK => ?_) ?_
      · obtain ⟨hH, v0, v1, v2, v3, v4, v5, v6, v7, v8, v9, v10, v11, v12, v13, v14, v15, v16, v17, v18, v19, v20⟩ := hJ
        have d3 : b 3 = true := hd.out 3 (by kernel_rfl)
        have d6 : b 6 = true := hd.out 6 (by kernel_rfl)
        have r3 := v3 d3
        have r6 := v6 d6
        have c_kr_0 := hH.ext.cell kr_0
        have c_kr_1 := hH.ext.cell kr_1
        have c_kr_2 := hH.ext.cell kr_2
        have c_kv_0 := hH.ext.cell kv_0
        have c_kv_1 := hH.ext.cell kv_1
        have c_kv_2 := hH.ext.cell kv_2
        go_simp
        refine hK.out _ ?_ _ ?_ ?_; rotate_left 2
        · (try simp only [r3, r6]); rfl
        exact ⟨hH, v0, v1, v2, v3, v4, v5, v6, fun _ => rfl, v8, v9, v10, v11, v12, v13, v14, v15, v16, v17, v18, v19, v20⟩
      refine AllSteps.cons (j := 9) rfl (fun b t wx hJ hb hd hcl Kc hK => ?_) ?_
      · obtain ⟨hH, v0, v1, v2, v3, v4, v5, v6, v7, v8, v9, v10, v11, v12, v13, v14, v15, v16, v17, v18, v19, v20⟩ := hJ
        have d3 : b 3 = true := hd.out 3 (by kernel_rfl)
        have d7 : b 7 = true := hd.out 7 (by kernel_rfl)
        have r3 := v3 d3
        have r7 := v7 d7
        have c_kr_0 := hH.ext.cell kr_0
        have c_kr_1 := hH.ext.cell kr_1
        have c_kr_2 := hH.ext.cell kr_2
        have c_kv_0 := hH.ext.cell kv_0
        have c_kv_1 := hH.ext.cell kv_1
        have c_kv_2 := hH.ext.cell kv_2
        go_simp
        refine hK.out _ ?_ _ ?_ ?_; rotate_left 2
        · (try simp only [r3, r7]); rfl
        exact ⟨hH, v0, v1, v2, v3, v4, v5, v6, v7, fun _ => rfl, v9, v10, v11, v12, v13, v14, v15, v16, v17, v18, v19, v20⟩
      refine AllSteps.cons (j := 10) rfl (fun b t wx hJ hb hd hcl Kc hK => ?_) ?_
      · obtain ⟨hH, v0, v1, v2, v3, v4, v5, v6, v7, v8, v9, v10, v11, v12, v13, v14, v15, v16, v17, v18, v19, v20⟩ := hJ
        have d8 : b 8 = true := hd.out 8 (by kernel_rfl)
        have r8 := v8 d8
        have c_kr_0 := hH.ext.cell kr_0
        have c_kr_1 := hH.ext.cell kr_1
        have c_kr_2 := hH.ext.cell kr_2
        have c_kv_0 := hH.ext.cell kv_0
        have c_kv_1 := hH.ext.cell kv_1
        have c_kv_2 := hH.ext.cell kv_2
        go_simp
        refine hK.out _ ?_ _ ?_ ?_; rotate_left 2
        · (try simp only [r8]); rfl
        exact ⟨hH, v0, v1, v2, v3, v4, v5, v6, v7, v8, fun _ => rfl, v10, v11, v12, v13, v14, v15, v16, v17, v18, v19, v20⟩
      refine AllSteps.cons (j := 11) rfl (fun b t wx hJ hb hd hcl Kc hK => ?_) ?_
      · obtain ⟨hH, v0, v1, v2, v3, v4, v5, v6, v7, v8, v9, v10, v11, v12, v13, v14, v15, v16, v17, v18, v19, v20⟩ := hJ
        have d8 : b 8 = true := hd.out 8 (by kernel_rfl)
        have d9 : b 9 = true := hd.out 9 (by kernel_rfl)
        have r8 := v8 d8
        have r9 := v9 d9
        have c_kr_0 := hH.ext.cell kr_0
        have c_kr_1 := hH.ext.cell kr_1
        have c_kr_2 := hH.ext.cell kr_2
        have c_kv_0 := hH.ext.cell kv_0
        have c_kv_1 := hH.ext.cell kv_1
        have c_kv_2 := hH.ext.cell kv_2
        go_simp
        refine hK.out _ ?_ _ ?_ ?_; rotate_left 2
        · (try simp only [r8, r9]); rfl
        exact ⟨hH, v0, v1, v2, v3, v4, v5, v6, v7, v8, v9, fun _ => rfl, v11, v12, v13, v14, v15, v16, v17, v18, v19, v20⟩
      refine AllSteps.cons (j := 12) rfl (fun b t wx hJ hb hd hcl Kc hK => ?_) ?_
      · obtain ⟨hH, v0, v1, v2, v3, v4, v5, v6, v7, v8, v9, v10, v11, v12, v13, v14, v15, v16, v17, v18, v19, v20⟩ := hJ
        have d8 : b 8 = true := hd.out 8 (by kernel_rfl)
        have d10 : b 10 = true := hd.out 10 (by kernel_rfl)
        have r8 := v8 d8
        have r10 := v10 d10
        have c_kr_0 := hH.ext.cell kr_0
        have c_kr_1 := hH.ext.cell kr_1
        have c_kr_2 := hH.ext.cell kr_2
        have c_kv_0 := hH.ext.cell kv_0
        have c_kv_1 := hH.ext.cell kv_1
        have c_kv_2 := hH.ext.cell kv_2
        go_simp
        refine hK.out _ ?_ _ ?_ ?_; rotate_left 2
        · (try simp only [r8, r10]); rfl
        exact ⟨hH, v0, v1, v2, v3, v4, v5, v6, v7, v8, v9, v10, fun _ => rfl, v12, v13, v14, v15, v16, v17, v18, v19, v20⟩
      refine AllSteps.cons (j := 13) rfl (fun b t wx hJ hb hd hcl Kc hK => ?_) ?_
      · obtain ⟨hH, v0, v1, v2, v3, v4, v5, v6, v7, v8, v9, v10, v11, v12, v13, v14, v15, v16, v17, v18, v19, v20⟩ := hJ
        have d8 : b 8 = true := hd.out 8 (by kernel_rfl)
        have d11 : b 11 = true := hd.out 11 (by kernel_rfl)
        have r8 := v8 d8
        have r11 := v11 d11
        have c_kr_0 := hH.ext.cell kr_0
        have c_kr_1 := hH.ext.cell kr_1
        have c_kr_2 := hH.ext.cell kr_2
        have c_kv_0 := hH.ext.cell kv_0
        have c_kv_1 := hH.ext.cell kv_1
        have c_kv_2 := hH.ext.cell kv_2
        go_simp
        refine hK.out _ ?_ _ ?_ ?_; rotate_left 2
        · (try simp only [r8, r11]); rfl
        exact ⟨hH, v0, v1, v2, v3, v4, v5, v6, v7, v8, v9, v10, v11, fun _ => rfl, v13, v14, v15, v16, v17, v18, v19, v20⟩
      refine AllSteps.cons (j := 14) rfl (fun b t wx hJ hb hd hcl Kc hK => ?_) ?_
      · obtain ⟨hH, v0, v1, v2, v3, v4, v5, v6, v7, v8, v9, v10, v11, v12, v13, v14, v15, v16, v17, v18, v19, v20⟩ := hJ
        have d8 : b 8 = true := hd.out 8 (by kernel_rfl)
        have d12 : b 12 = true := hd.out 12 (by kernel_rfl)
        have r8 := v8 d8
        have r12 := v12 d12
        have c_kr_0 := hH.ext.cell kr_0
        have c_kr_1 := hH.ext.cell kr_1
        have c_kr_2 := hH.ext.cell kr_2
        have c_kv_0 := hH.ext.cell kv_0
        have c_kv_1 := hH.ext.cell kv_1
        have c_kv_2 := hH.ext.cell kv_2
        go_simp
        refine hK.out _ ?_ _ ?_ ?_; rotate_left 2
        · (try simp only [r8, r12]); rfl
        exact ⟨hH, v0, v1, v2, v3, v4, v5, v6, v7, v8, v9, v10, v11, v12, fun _ => rfl, v14, v15, v16, v17, v18, v19, v20⟩
      refine AllSteps.cons (j := 15) rfl (fun b t wx hJ hb hd hcl Kc hK => ?_) ?_
      · obtain ⟨hH, v0, v1, v2, v3, v4, v5, v6, v7, v8, v9, v10, v11, v12, v13, v14, v15, v16, v17, v18, v19, v20⟩ := hJ
        have d13 : b 13 = true := hd.out 13 (by kernel_rfl)
        have r13 := v13 d13
        have c_kr_0 := hH.ext.cell kr_0
        have c_kr_1 := hH.ext.cell kr_1
        have c_kr_2 := hH.ext.cell kr_2
        have c_kv_0 := hH.ext.cell kv_0
        have c_kv_1 := hH.ext.cell kv_1
        have c_kv_2 := hH.ext.cell kv_2
        go_simp
        refine hK.out _ ?_ _ ?_ ?_; rotate_left 2
        · (try simp only [r13]); rfl
        exact ⟨hH, v0, v1, v2, v3, v4, v5, v6, v7, v8, v9, v10, v11, v12, v13, fun _ => rfl, v15, v16, v17, v18, v19, v20⟩
      refine AllSteps.cons (j := 16) rfl (fun b t wx hJ hb hd hcl Kc hK => ?_) ?_
      · obtain ⟨hH, v0, v1, v2, v3, v4, v5, v6, v7, v8, v9, v10, v11, v12, v13, v14, v15, v16, v17, v18, v19, v20⟩ := hJ
        have d13 : b 13 = true := hd.out 13 (by kernel_rfl)
        have r13 := v13 d13
        have c_kr_0 := hH.ext.cell kr_0
        have c_kr_1 := hH.ext.cell kr_1
        have c_kr_2 := hH.ext.cell kr_2
        have c_kv_0 := hH.ext.cell kv_0
        have c_kv_1 := hH.ext.cell kv_1
        have c_kv_2 := hH.ext.cell kv_2
        go_simp
        refine hK.out _ ?_ _ ?_ ?_; rotate_left 2
        · (try simp only [r13]); rfl
        exact ⟨hH, v0, v1, v2, v3, v4, v5, v6, v7, v8, v9, v10, v11, v12, v13, v14, fun _ => rfl, v16, v17, v18, v19, v20⟩
      refine AllSteps.cons (j := 17) rfl (fun b t wx hJ hb hd hcl Kc hK => ?_) ?_
      · obtain ⟨hH, v0, v1, v2, v3, v4, v5, v6, v7, v8, v9, v10, v11, v12, v13, v14, v15, v16, v17, v18, v19, v20⟩ := hJ
        have d13 : b 13 = true := hd.out 13 (by kernel_rfl)
        have d15 : b 15 = true := hd.out 15 (by kernel_rfl)
        have r13 := v13 d13
        have r15 := v15 d15
        have c_kr_0 := hH.ext.cell kr_0
        have c_kr_1 := hH.ext.cell kr_1
        have c_kr_2 := hH.ext.cell kr_2
        have c_kv_0 := hH.ext.cell kv_0
        have c_kv_1 := hH.ext.cell kv_1
        have c_kv_2 := hH.ext.cell kv_2
        go_simp
        refine hK.out _ ?_ _ ?_ ?_; rotate_left 2
        · (try simp only [r13, r15]); rfl
        exact ⟨hH, v0, v1, v2, v3, v4, v5, v6, v7, v8, v9, v10, v11, v12, v13, v14, v15, fun _ => rfl, v17, v18, v19, v20⟩
      refine AllSteps.cons (j := 18) rfl (fun b t wx hJ hb hd hcl Kc hK => ?_) ?_
      · obtain ⟨hH, v0, v1, v2, v3, v4, v5, v6, v7, v8, v9, v10, v11, v12, v13, v14, v15, v16, v17, v18, v19, v20⟩ := hJ
        have d13 : b 13 = true := hd.out 13 (by kernel_rfl)
        have d16 : b 16 = true := hd.out 16 (by kernel_rfl)
        have r13 := v13 d13
        have r16 := v16 d16
        have c_kr_0 := hH.ext.cell kr_0
        have c_kr_1 := hH.ext.cell kr_1
        have c_kr_2 := hH.ext.cell kr_2
        have c_kv_0 := hH.ext.cell kv_0
        have c_kv_1 := hH.ext.cell kv_1
        have c_kv_2 := hH.ext.cell kv_2
        go_simp
        refine hK.out _ ?_ _ ?_ ?_; rotate_left 2
        · (try simp only [r13, r16]); rfl
        exact ⟨hH, v0, v1, v2, v3, v4, v5, v6, v7, v8, v9, v10, v11, v12, v13, v14, v15, v16, fun _ => rfl, v18, v19, v20⟩
      refine AllSteps.cons (j := 19) rfl (fun b t wx hJ hb hd hcl Kc hK => ?_) ?_
      · obtain ⟨hH, v0, v1, v2, v3, v4, v5, v6, v7, v8, v9, v10, v11, v12, v13, v14, v15, v16, v17, v18, v19, v20⟩ := hJ
        have d13 : b 13 = true := hd.out 13 (by kernel_rfl)
        have d14 : b 14 = true := hd.out 14 (by kernel_rfl)
        have d17 : b 17 = true := hd.out 17 (by kernel_rfl)
        have r13 := v13 d13
        have r14 := v14 d14
        have r17 := v17 d17
        go_simp
        go_at_call 48
        refine (tensorOk_impl k p n _ L (L.map dm) (flat x0) _ (hT'.ext (h1.trans hH.ext))).mono ?_; rintro e18 w18 ⟨rfl, h2'⟩
        rw [HYT.out]
        (try go_simp)
        refine hK.out _ ?_ _ ?_ ?_; rotate_left 2
        · (try simp only [r13, r14, r17]); rfl
        exact ⟨by have hX := hH.grow h2'; (try simp only [List.set_cons_zero, List.set_cons_succ] at hX); simpa only [updB, updV, blkOf_mk, tup0_mk, partsOf3, Nat.reduceBEq, cond_true, cond_false, hb, d13, d14, d17, r13, r14, r17] using hX, v0, v1, v2, v3, v4, v5, v6, v7, v8, v9, v10, v11, v12, v13, v14, v15, v16, v17, fun _ => rfl, v19, v20⟩
      refine AllSteps.cons (j := 20) rfl (fun b t wx hJ hb hd hcl Kc hK => ?_) ?_
      · obtain ⟨hH, v0, v1, v2, v3, v4, v5, v6, v7, v8, v9, v10, v11, v12, v13, v14, v15, v16, v17, v18, v19, v20⟩ := hJ
        have d13 : b 13 = true := hd.out 13 (by kernel_rfl)
        have d18 : b 18 = true := hd.out 18 (by kernel_rfl)
        have r13 := v13 d13
        have r18 := v18 d18
        have c_kr_0 := hH.ext.cell kr_0
        have c_kr_1 := hH.ext.cell kr_1
        have c_kr_2 := hH.ext.cell kr_2
        have c_kv_0 := hH.ext.cell kv_0
        have c_kv_1 := hH.ext.cell kv_1
        have c_kv_2 := hH.ext.cell kv_2
        go_simp
        refine hK.out _ ?_ _ ?_ ?_; rotate_left 2
        · (try simp only [r13, r18]); rfl
        exact ⟨hH, v0, v1, v2, v3, v4, v5, v6, v7, v8, v9, v10, v11, v12, v13, v14, v15, v16, v17, v18, fun _ => rfl, v20⟩
      refine AllSteps.cons (j := 21) rfl (fun b t wx hJ hb hd hcl Kc hK => ?_) ?_
      · obtain ⟨hH, v0, v1, v2, v3, v4, v5, v6, v7, v8, v9, v10, v11, v12, v13, v14, v15, v16, v17, v18, v19, v20⟩ := hJ
        have d13 : b 13 = true := hd.out 13 (by kernel_rfl)
        have d19 : b 19 = true := hd.out 19 (by kernel_rfl)
        have r13 := v13 d13
        have r19 := v19 d19
        have c_kr_0 := hH.ext.cell kr_0
        have c_kr_1 := hH.ext.cell kr_1
        have c_kr_2 := hH.ext.cell kr_2
        have c_kv_0 := hH.ext.cell kv_0
        have c_kv_1 := hH.ext.cell kv_1
        have c_kv_2 := hH.ext.cell kv_2
        go_simp
        refine hK.out _ ?_ _ ?_ ?_; rotate_left 2
        · (try simp only [r13, r19]); rfl
        exact ⟨hH, v0, v1, v2, v3, v4, v5, v6, v7, v8, v9, v10, v11, v12, v13, v14, v15, v16, v17, v18, v19, fun _ => rfl⟩
      exact AllSteps.nil
  case hEa =>
    intro b t wa hJ hall
    obtain ⟨hHa, v0, v1, v2, v3, v4, v5, v6, v7, v8, v9, v10, v11, v12, v13, v14, v15, v16, v17, v18, v19, v20⟩ := hJ
    have a0 : b 0 = true := hall 0 (by decide)
    have a1 : b 1 = true := hall 1 (by decide)
    have a2 : b 2 = true := hall 2 (by decide)
    have a3 : b 3 = true := hall 3 (by decide)
    have a4 : b 4 = true := hall 4 (by decide)
    have a5 : b 5 = true := hall 5 (by decide)
    have a6 : b 6 = true := hall 6 (by decide)
    have a7 : b 7 = true := hall 7 (by decide)
    have a8 : b 8 = true := hall 8 (by decide)
    have a9 : b 9 = true := hall 9 (by decide)
    have a10 : b 10 = true := hall 10 (by decide)
    have a11 : b 11 = true := hall 11 (by decide)
    have a12 : b 12 = true := hall 12 (by decide)
    have a13 : b 13 = true := hall 13 (by decide)
    have a14 : b 14 = true := hall 14 (by decide)
    have a15 : b 15 = true := hall 15 (by decide)
    have a16 : b 16 = true := hall 16 (by decide)
    have a17 : b 17 = true := hall 17 (by decide)
    have a18 : b 18 = true := hall 18 (by decide)
    have a19 : b 19 = true := hall 19 (by decide)
    have a20 : b 20 = true := hall 20 (by decide)
    (try simp only [a0, a1, a2, a3, a4, a5, a6, a7, a8, a9, a10, a11, a12, a13, a14, a15, a16, a17, a18, a19, a20, cond_true] at hHa)
    replace v0 := v0 a0
    replace v1 := v1 a1
    replace v2 := v2 a2
    replace v3 := v3 a3
    replace v4 := v4 a4
    replace v5 := v5 a5
    replace v6 := v6 a6
    replace v7 := v7 a7
    replace v8 := v8 a8
    replace v9 := v9 a9
    replace v10 := v10 a10
    replace v11 := v11 a11
    replace v12 := v12 a12
    replace v13 := v13 a13
    replace v14 := v14 a14
    replace v15 := v15 a15
    replace v16 := v16 a16
    replace v17 := v17 a17
    replace v18 := v18 a18
    replace v19 := v19 a19
    replace v20 := v20 a20
    clear hall a0 a1 a2 a3 a4 a5 a6 a7 a8 a9 a10 a11 a12 a13 a14 a15 a16 a17 a18 a19 a20
    generalize t 20 = x20 at hHa v20 ⊢
    generalize t 19 = x19 at hHa v19 ⊢
    generalize t 18 = x18 at hHa v18 ⊢
    generalize t 17 = x17 at hHa v17 ⊢
    generalize t 16 = x16 at hHa v16 ⊢
    generalize t 15 = x15 at hHa v15 ⊢
    generalize t 14 = x14 at hHa v14 ⊢
    generalize t 13 = x13 at hHa v13 ⊢
    generalize t 12 = x12 at hHa v12 ⊢
    generalize t 11 = x11 at hHa v11 ⊢
    generalize t 10 = x10 at hHa v10 ⊢
    generalize t 9 = x9 at hHa v9 ⊢
    generalize t 8 = x8 at hHa v8 ⊢
    generalize t 7 = x7 at hHa v7 ⊢
    generalize t 6 = x6 at hHa v6 ⊢
    generalize t 5 = x5 at hHa v5 ⊢
    generalize t 4 = x4 at hHa v4 ⊢
    generalize t 3 = x3 at hHa v3 ⊢
    generalize t 2 = x2 at hHa v2 ⊢
    generalize t 1 = x1 at hHa v1 ⊢
    generalize t 0 = x0 at hHa v0 ⊢
    subst v0
    subst v1
    subst v2
    subst v3
    subst v4
    subst v5
    subst v6
    subst v7
    subst v8
    subst v9
    subst v10
    subst v11
    subst v12
    subst v13
    subst v14
    subst v15
    subst v16
    subst v17
    subst v18
    subst v19
    subst v20
    clear b
    replace hH := hHa; clear hHa
    replace hH : Held w1 wa [] := hH
    have hmk := mkTensors m (by omega)
    have c_kr_0 := hH.ext.cell kr_0
    have c_kr_1 := hH.ext.cell kr_1
    have c_kr_2 := hH.ext.cell kr_2
    have c_kv_0 := hH.ext.cell kv_0
    have c_kv_1 := hH.ext.cell kv_1
    have c_kv_2 := hH.ext.cell kv_2
    go_wp2_with fail
    clear c_kr_0 c_kr_1 c_kr_2 c_kv_0 c_kv_1 c_kv_2
    have hHm : Held w1 _ [aTs (.slice (some ⟨wa.heap.size, 0, none⟩) m m) (List.replicate m (.slice none 0 0, .slice none 0 0, .slice none 0 0)) (List.replicate m ([], [], []))] := (hH.mores 1).madeTs 0 m (by unfold maxLen; omega)
    clear hmk
    go_loopw [44] (fun i wr => ∃ (j : Nat) (cs : List (Value × Value × Value)), j ≤ m ∧ i = .int .i64 j ∧ Held w1 wr [aTs (.slice (some ⟨wa.heap.size, 0, none⟩) m m) cs (fillTs ts m j)]) (fun i wr => m - (RowKit.intOf i).toNat)
    case atStart => exact ⟨0, _, Nat.zero_le _, rfl, by rw [fillTs_zero]; exact hHm⟩
    case round =>
      clear hH hHm
      obtain ⟨j, cs, hj, rfl, hH⟩ := hrel
      obtain ⟨FT, hFT⟩ : ∃ q, fillTs ts m j = q := ⟨_, rfl⟩
      rw [hFT] at hH
      have HFT := Lib.hid hFT; clear hFT
      by_cases hlt : j < m
      · skip
        obtain ⟨ys, hys, hty, hTy⟩ := HG.out j hlt
        obtain ⟨_, _, u1, u2, u3, t1, hV, hu0, hu1, hu2, ht1, hTu⟩ := hl.get (i := j) (by rw [HTL.out]; exact hlt)
        cases hV
        obtain rfl : t1 = (L, L.map dm, flat ys) := by rw [hty] at ht1; exact (Option.some.inj ht1).symm
        have HTY := Lib.hid hTy; have HTE := Lib.hid hty; clear ht1 hTy hty hys
        obtain ⟨e1, m1, f1, e2, m2, f2, e3, m3, f3, hvv⟩ := hTu.shape
        simp at hvv
        obtain ⟨rfl, rfl, rfl⟩ := hvv
        rw [Nat.mul_comm 3 j] at hu0 hu1 hu2
        have ku_0 := h1.cell hu0
        have ku_1 := h1.cell hu1
        have ku_2 := h1.cell hu2
        have c_kr_0 := hH.ext.cell kr_0
        have c_kr_1 := hH.ext.cell kr_1
        have c_kr_2 := hH.ext.cell kr_2
        have c_kv_0 := hH.ext.cell kv_0
        have c_kv_1 := hH.ext.cell kv_1
        have c_kv_2 := hH.ext.cell kv_2
        have c_ku_0 := hH.ext.cell ku_0
        have c_ku_1 := hH.ext.cell ku_1
        have c_ku_2 := hH.ext.cell ku_2
        go_upto_region 7 with fail
        clear c_kr_0 c_kr_1 c_kr_2 c_kv_0 c_kv_1 c_kv_2 c_ku_0 c_ku_1 c_ku_2
        have hB : Held w1 (wr.alloc (.cells #[.slice e1 m1 f1, .slice e2 m2 f2, .slice e3 m3 f3] 31)) [aTs (.slice (some ⟨wa.heap.size, 0, none⟩) m m) cs FT, aB (wr.heap.size) 31 [.slice e1 m1 f1, .slice e2 m2 f2, .slice e3 m3 f3]] := by
          have h := (hH.mores 1).addB 1 #[.slice e1 m1 f1, .slice e2 m2 f2, .slice e3 m3 f3] 31
          exact h
        have hsz : (wr.alloc (.cells #[.slice e1 m1 f1, .slice e2 m2 f2, .slice e3 m3 f3] 31)).heap.size = wr.heap.size + 1 := by simp
        generalize wr.alloc (.cells #[.slice e1 m1 f1, .slice e2 m2 f2, .slice e3 m3 f3] 31) = wn1 at hB hsz ⊢
        replace hH := hB; have HSZwn1 := Lib.hid hsz; clear hB hsz
        replace hH := hH.mores 2
        replace hH : Held w1 wn1 [aTs (.slice (some ⟨wa.heap.size, 0, none⟩) m m) cs FT, aB (wr.heap.size) 31 [.slice e1 m1 f1, .slice e2 m2 f2, .slice e3 m3 f3], emp, emp] := hH
        refine wp_region_steps ?Fb (fun b t wx => Held w1 wx [aTs (.slice (some ⟨wa.heap.size, 0, none⟩) m m) cs FT, aB (wr.heap.size) 31 [.slice e1 m1 f1, .slice e2 m2 f2, .slice e3 m3 f3], (bif b 5 then aT (tup0 (t 5)) L (L.map dm) (flat ys) else emp), (bif b 10 then aB (blkOf (t 9)) 31 (partsOf (t 7)) else (bif b 9 then aB (blkOf (t 9)) 31 [.slice none 0 0, .slice none 0 0, .slice none 0 0] else emp))] ∧ (b 0 = true → t 0 = .agg #[.int .i64 k, .int .i64 p, .int .i64 n]) ∧ (b 1 = true → t 1 = .slice (some ⟨bV, oV, none⟩) m cV) ∧ (b 2 = true → t 2 = .pointer (some ⟨bV, oV, none⟩)) ∧ (b 3 = true → t 3 = .agg #[.slice p1 L.length cp1, .slice p2 L.length cp2, .slice p3 (flat x0).length cp3]) ∧ (b 4 = true → t 4 = .agg #[.slice e1 m1 f1, .slice e2 m2 f2, .slice e3 m3 f3]) ∧ (b 5 = true → ∃ p1 n1 c1 p2 n2 c2 p3 n3 c3, t 5 = .tuple #[.agg #[.slice p1 n1 c1, .slice p2 n2 c2, .slice p3 n3 c3], .bool true]) ∧ (b 6 = true → t 6 = t 5) ∧ (b 7 = true → t 7 = tup0 (t 5)) ∧ (b 8 = true → t 8 = .bool true) ∧ (b 9 = true → ∃ q, t 9 = .pointer (some ⟨q, 0, none⟩)) ∧ (b 11 = true → t 11 = .bool true)) ?hFb (by kernel_rfl) (by kernel_rfl) ?hJb ?hSb ?hEb
        (case hFb => intro t; simp only [putAll, Act.put, List.setIfInBounds_toArray, List.set_cons_zero, List.set_cons_succ, Nat.reduceAdd, Nat.zero_add]; exact rfl)
        case hJb => exact ⟨hH.grow ((Ext.refl _).drew), fun h => absurd h Bool.false_ne_true, fun h => absurd h Bool.false_ne_true, fun h => absurd h Bool.false_ne_true, fun h => absurd h Bool.false_ne_true, fun h => absurd h Bool.false_ne_true, fun h => absurd h Bool.false_ne_true, fun h => absurd h Bool.false_ne_true, fun h => absurd h Bool.false_ne_true, fun h => absurd h Bool.false_ne_true, fun h => absurd h Bool.false_ne_true, fun h => absurd h Bool.false_ne_true⟩
        case hSb =>
          as_aux_lemma =>
            refine AllSteps.cons (j := 1) rfl (fun b t wx hJ hb hd hcl Kc hK => ?_) ?_
            · obtain ⟨hH, v0, v1, v2, v3, v4, v5, v6, v7, v8, v9, v11⟩ := hJ
              have c_kr_0 := hH.ext.cell kr_0
              have c_kr_1 := hH.ext.cell kr_1
              have c_kr_2 := hH.ext.cell kr_2
              have c_kv_0 := hH.ext.cell kv_0
              have c_kv_1 := hH.ext.cell kv_1
              have c_kv_2 := hH.ext.cell kv_2
              have c_ku_0 := hH.ext.cell ku_0
              have c_ku_1 := hH.ext.cell ku_1
              have c_ku_2 := hH.ext.cell ku_2
              go_simp
              refine hK.out _ ?_ _ ?_ ?_; rotate_left 2
              · rfl
              exact ⟨hH, fun _ => rfl, v1, v2, v3, v4, v5, v6, v7, v8, v9, v11⟩
            refine AllSteps.cons (j := 2) rfl (fun b t wx hJ hb hd hcl Kc hK => ?_) ?_
            · obtain ⟨hH, v0, v1, v2, v3, v4, v5, v6, v7, v8, v9, v11⟩ := hJ
              have c_kr_0 := hH.ext.cell kr_0
              have c_kr_1 := hH.ext.cell kr_1
              have c_kr_2 := hH.ext.cell kr_2
              have c_kv_0 := hH.ext.cell kv_0
              have c_kv_1 := hH.ext.cell kv_1
              have c_kv_2 := hH.ext.cell kv_2
              have c_ku_0 := hH.ext.cell ku_0
              have c_ku_1 := hH.ext.cell ku_1
              have c_ku_2 := hH.ext.cell ku_2
              go_simp
              refine hK.out _ ?_ _ ?_ ?_; rotate_left 2
              · rfl
              exact ⟨hH, v0, fun _ => rfl, v2, v3, v4, v5, v6, v7, v8, v9, v11⟩
            refine AllSteps.cons (j := 3) rfl (fun b t wx hJ hb hd hcl Kc hK => ?_) ?_
            · obtain ⟨hH, v0, v1, v2, v3, v4, v5, v6, v7, v8, v9, v11⟩ := hJ
              have d1 : b 1 = true := hd.out 1 (by kernel_rfl)
              have r1 := v1 d1
              have c_kr_0 := hH.ext.cell kr_0
              have c_kr_1 := hH.ext.cell kr_1
              have c_kr_2 := hH.ext.cell kr_2
              have c_kv_0 := hH.ext.cell kv_0
              have c_kv_1 := hH.ext.cell kv_1
              have c_kv_2 := hH.ext.cell kv_2
              have c_ku_0 := hH.ext.cell ku_0
              have c_ku_1 := hH.ext.cell ku_1
              have c_ku_2 := hH.ext.cell ku_2
              go_simp
              refine hK.out _ ?_ _ ?_ ?_; rotate_left 2
              · (try simp only [r1]); rfl
              exact ⟨hH, v0, v1, fun _ => rfl, v3, v4, v5, v6, v7, v8, v9, v11⟩
            refine AllSteps.cons (j := 4) rfl (fun b t wx hJ hb hd hcl Kc hK => ?_) ?_
            · obtain ⟨hH, v0, v1, v2, v3, v4, v5, v6, v7, v8, v9, v11⟩ := hJ
              have d2 : b 2 = true := hd.out 2 (by kernel_rfl)
              have r2 := v2 d2
              have c_kr_0 := hH.ext.cell kr_0
              have c_kr_1 := hH.ext.cell kr_1
              have c_kr_2 := hH.ext.cell kr_2
              have c_kv_0 := hH.ext.cell kv_0
              have c_kv_1 := hH.ext.cell kv_1
              have c_kv_2 := hH.ext.cell kv_2
              have c_ku_0 := hH.ext.cell ku_0
              have c_ku_1 := hH.ext.cell ku_1
              have c_ku_2 := hH.ext.cell ku_2
              go_simp
              refine hK.out _ ?_ _ ?_ ?_; rotate_left 2
              · (try simp only [r2]); rfl
              exact ⟨hH, v0, v1, v2, fun _ => rfl, v4, v5, v6, v7, v8, v9, v11⟩
            refine AllSteps.cons (j := 5) rfl (fun b t wx hJ hb hd hcl Kc hK => ?_) ?_
            · obtain ⟨hH, v0, v1, v2, v3, v4, v5, v6, v7, v8, v9, v11⟩ := hJ
              have c_kr_0 := hH.ext.cell kr_0
              have c_kr_1 := hH.ext.cell kr_1
              have c_kr_2 := hH.ext.cell kr_2
              have c_kv_0 := hH.ext.cell kv_0
              have c_kv_1 := hH.ext.cell kv_1
              have c_kv_2 := hH.ext.cell kv_2
              have c_ku_0 := hH.ext.cell ku_0
              have c_ku_1 := hH.ext.cell ku_1
              have c_ku_2 := hH.ext.cell ku_2
              have q1_0 := (hH.blk (k := 1) rfl).cell (j := 0) rfl
              have q1_1 := (hH.blk (k := 1) rfl).cell (j := 1) rfl
              have q1_2 := (hH.blk (k := 1) rfl).cell (j := 2) rfl
              go_simp
              refine hK.out _ ?_ _ ?_ ?_; rotate_left 2
              · rfl
              exact ⟨hH, v0, v1, v2, v3, fun _ => rfl, v5, v6, v7, v8, v9, v11⟩
            refine AllSteps.cons (j := 6) rfl (fun b t wx hJ hb hd hcl Kc hK => ?_) ?_
            · obtain ⟨hH, v0, v1, v2, v3, v4, v5, v6, v7, v8, v9, v11⟩ := hJ
              have d0 : b 0 = true := hd.out 0 (by kernel_rfl)
              have d3 : b 3 = true := hd.out 3 (by kernel_rfl)
              have d4 : b 4 = true := hd.out 4 (by kernel_rfl)
              have n6 : b 6 = false := Bool.eq_false_iff.2 fun h => absurd (hcl.out 6 5 (by kernel_rfl) (h)) (by rw [hb]; exact Bool.false_ne_true)
              have n7 : b 7 = false := Bool.eq_false_iff.2 fun h => absurd (hcl.out 6 5 (by kernel_rfl) (hcl.out 7 6 (by kernel_rfl) (h))) (by rw [hb]; exact Bool.false_ne_true)
              have r0 := v0 d0
              have r3 := v3 d3
              have r4 := v4 d4
              have hN := hH; (try simp only [hb, d0, d3, d4, n6, n7, cond_true, cond_false] at hN)
              go_simp
              go_at_call 77
              refine (alignTensor_any HR.out HT0.out HTY.out (List.Perm.refl _) _ _ _ (hT'.ext (h1.trans hH.ext)) (hTu.ext (h1.trans hH.ext))).mono ?_; rintro e5 w5 ⟨vc, rfl, oc, hc⟩
              rw [permXs_selfT HR.out HTY.out] at oc
              obtain ⟨pa1, na1, ca1, pa2, na2, ca2, pa3, na3, ca3, rfl⟩ := oc.shape
              (try go_simp)
              refine hK.out _ ?_ _ ?_ ?_; rotate_left 2
              · (try simp only [r0, r3, r4]); rfl
              exact ⟨by have hX := hN.addT 2 hc oc (Nat.le_refl _); (try simp only [List.set_cons_zero, List.set_cons_succ] at hX); simpa only [updB, updV, blkOf_mk, tup0_mk, partsOf3, Nat.reduceBEq, cond_true, cond_false, hb, d0, d3, d4, n6, n7, r0, r3, r4] using hX, v0, v1, v2, v3, v4, fun _ => ⟨_, _, _, _, _, _, _, _, _, rfl⟩, fun h => absurd (show b 6 = true from h) (by rw [n6]; exact Bool.false_ne_true), fun h => absurd (show b 7 = true from h) (by rw [n7]; exact Bool.false_ne_true), v8, v9, v11⟩
            refine AllSteps.cons (j := 7) rfl (fun b t wx hJ hb hd hcl Kc hK => ?_) ?_
            · obtain ⟨hH, v0, v1, v2, v3, v4, v5, v6, v7, v8, v9, v11⟩ := hJ
              have d5 : b 5 = true := hd.out 5 (by kernel_rfl)
              have r5 := v5 d5
              obtain ⟨p1_5, n1_5, c1_5, p2_5, n2_5, c2_5, p3_5, n3_5, c3_5, r5⟩ := r5
              have c_kr_0 := hH.ext.cell kr_0
              have c_kr_1 := hH.ext.cell kr_1
              have c_kr_2 := hH.ext.cell kr_2
              have c_kv_0 := hH.ext.cell kv_0
              have c_kv_1 := hH.ext.cell kv_1
              have c_kv_2 := hH.ext.cell kv_2
              have c_ku_0 := hH.ext.cell ku_0
              have c_ku_1 := hH.ext.cell ku_1
              have c_ku_2 := hH.ext.cell ku_2
              go_simp
              refine hK.out _ ?_ _ ?_ ?_; rotate_left 2
              · (try simp only [r5]); rfl
              exact ⟨hH, v0, v1, v2, v3, v4, v5, fun _ => (by first | rfl | exact r5.symm), v7, v8, v9, v11⟩
            refine AllSteps.cons (j := 8) rfl (fun b t wx hJ hb hd hcl Kc hK => ?_) ?_
            · obtain ⟨hH, v0, v1, v2, v3, v4, v5, v6, v7, v8, v9, v11⟩ := hJ
              have d5 : b 5 = true := hcl.out 6 5 (by kernel_rfl) (hd.out 6 (by kernel_rfl))
              have d6 : b 6 = true := hd.out 6 (by kernel_rfl)
              have n10 : b 10 = false := Bool.eq_false_iff.2 fun h => absurd (hcl.out 10 7 (by kernel_rfl) (h)) (by rw [hb]; exact Bool.false_ne_true)
              have r5 := v5 d5
              have r6 := v6 d6
              obtain ⟨p1_5, n1_5, c1_5, p2_5, n2_5, c2_5, p3_5, n3_5, c3_5, r5⟩ := r5
              have hN := hH; (try simp only [hb, d5, d6, n10, cond_true, cond_false] at hN)
              have e5 := r5 -- d5
              go_simp
              refine hK.out _ ?_ _ ?_ ?_; rotate_left 2
              · (try simp only [r5, r6]); rfl
              exact ⟨by have hX := hN; (try simp only [List.set_cons_zero, List.set_cons_succ] at hX); simpa only [updB, updV, blkOf_mk, tup0_mk, partsOf3, Nat.reduceBEq, cond_true, cond_false, hb, d5, d6, n10, r5, r6] using hX, v0, v1, v2, v3, v4, v5, v6, fun _ => (by show _ = tup0 (t 5); rw [r5]; rfl), v8, v9, v11⟩
            refine AllSteps.cons (j := 9) rfl (fun b t wx hJ hb hd hcl Kc hK => ?_) ?_
            · obtain ⟨hH, v0, v1, v2, v3, v4, v5, v6, v7, v8, v9, v11⟩ := hJ
              have d5 : b 5 = true := hcl.out 6 5 (by kernel_rfl) (hd.out 6 (by kernel_rfl))
              have d6 : b 6 = true := hd.out 6 (by kernel_rfl)
              have r5 := v5 d5
              have r6 := v6 d6
              obtain ⟨p1_5, n1_5, c1_5, p2_5, n2_5, c2_5, p3_5, n3_5, c3_5, r5⟩ := r5
              have e5 := r5 -- d5
              go_simp
              refine hK.out _ ?_ _ ?_ ?_; rotate_left 2
              · (try simp only [r5, r6]); rfl
              exact ⟨hH, v0, v1, v2, v3, v4, v5, v6, v7, fun _ => rfl, v9, v11⟩
            refine AllSteps.cons (j := 10) rfl (fun b t wx hJ hb hd hcl Kc hK => ?_) ?_
            · obtain ⟨hH, v0, v1, v2, v3, v4, v5, v6, v7, v8, v9, v11⟩ := hJ
              have n10 : b 10 = false := Bool.eq_false_iff.2 fun h => absurd (hcl.out 10 9 (by kernel_rfl) (h)) (by rw [hb]; exact Bool.false_ne_true)
              have hN := hH; (try simp only [hb, n10, cond_true, cond_false] at hN)
              go_simp
              refine hK.out _ ?_ _ ?_ ?_; rotate_left 2
              · rfl
              exact ⟨by have hX := hN.addB 3 #[.slice none 0 0, .slice none 0 0, .slice none 0 0] 31; (try simp only [List.set_cons_zero, List.set_cons_succ] at hX); simpa only [updB, updV, blkOf_mk, tup0_mk, partsOf3, Nat.reduceBEq, cond_true, cond_false, hb, n10] using hX, v0, v1, v2, v3, v4, v5, v6, v7, v8, fun _ => ⟨_, rfl⟩, v11⟩
            refine AllSteps.cons (j := 11) rfl (fun b t wx hJ hb hd hcl Kc hK => ?_) ?_
            · obtain ⟨hH, v0, v1, v2, v3, v4, v5, v6, v7, v8, v9, v11⟩ := hJ
              have d0 : b 0 = true := hd.out 0 (by kernel_rfl)
              have d1 : b 1 = true := hd.out 1 (by kernel_rfl)
              have d2 : b 2 = true := hd.out 2 (by kernel_rfl)
              have d3 : b 3 = true := hd.out 3 (by kernel_rfl)
              have d4 : b 4 = true := hd.out 4 (by kernel_rfl)
              have d5 : b 5 = true := hd.out 5 (by kernel_rfl)
              have d6 : b 6 = true := hd.out 6 (by kernel_rfl)
              have d7 : b 7 = true := hd.out 7 (by kernel_rfl)
              have d9 : b 9 = true := hd.out 9 (by kernel_rfl)
              have r0 := v0 d0
              have r1 := v1 d1
              have r2 := v2 d2
              have r3 := v3 d3
              have r4 := v4 d4
              have r5 := v5 d5
              have r6 := v6 d6
              have r7 := v7 d7
              have r9 := v9 d9
              obtain ⟨p1_5, n1_5, c1_5, p2_5, n2_5, c2_5, p3_5, n3_5, c3_5, r5⟩ := r5
              obtain ⟨q_9, r9⟩ := r9
              have hN := hH; (try simp only [hb, d0, d1, d2, d3, d4, d5, d6, d7, d9, cond_true, cond_false] at hN)
              rw [r5, tup0_mk] at r7 -- d5
              simp only [r9, r7, blkOf_mk, tup0_mk, partsOf3] at hN
              have B := hN.blk (k := 3) rfl
              have f0 := B.free 0; have z0 := B.cell (j := 0) rfl
              have f1 := B.free 1; have z1 := B.cell (j := 1) rfl
              have f2 := B.free 2; have z2 := B.cell (j := 2) rfl
              have lB := B.lt; have hmk0 := @tup0_mk
              go_simp
              refine hK.out _ undef _ ?_ ?_; rotate_left 1
              · (try simp only [r0, r1, r2, r3, r4, r5, r6, r7, r9]); rfl
              exact ⟨by have hX := hN.setB3' (k := 3) rfl (.slice p1_5 n1_5 c1_5) (.slice p2_5 n2_5 c2_5) (.slice p3_5 n3_5 c3_5); (try simp only [List.set_cons_zero, List.set_cons_succ] at hX); simpa only [updB, updV, blkOf_mk, tup0_mk, partsOf3, Nat.reduceBEq, cond_true, cond_false, hb, d0, d1, d2, d3, d4, d5, d6, d7, d9, r0, r1, r2, r3, r4, r5, r6, r7, r9] using hX, v0, v1, v2, v3, v4, v5, v6, v7, v8, v9, v11⟩
            refine AllSteps.cons (j := 12) rfl (fun b t wx hJ hb hd hcl Kc hK => ?_) ?_
            · obtain ⟨hH, v0, v1, v2, v3, v4, v5, v6, v7, v8, v9, v11⟩ := hJ
              have d0 : b 0 = true := hd.out 0 (by kernel_rfl)
              have d1 : b 1 = true := hd.out 1 (by kernel_rfl)
              have d2 : b 2 = true := hd.out 2 (by kernel_rfl)
              have d3 : b 3 = true := hd.out 3 (by kernel_rfl)
              have d4 : b 4 = true := hd.out 4 (by kernel_rfl)
              have d5 : b 5 = true := hd.out 5 (by kernel_rfl)
              have d6 : b 6 = true := hd.out 6 (by kernel_rfl)
              have d7 : b 7 = true := hd.out 7 (by kernel_rfl)
              have d8 : b 8 = true := hd.out 8 (by kernel_rfl)
              have d9 : b 9 = true := hd.out 9 (by kernel_rfl)
              have d10 : b 10 = true := hd.out 10 (by kernel_rfl)
              have r0 := v0 d0
              have r1 := v1 d1
              have r2 := v2 d2
              have r3 := v3 d3
              have r4 := v4 d4
              have r5 := v5 d5
              have r6 := v6 d6
              have r7 := v7 d7
              have r8 := v8 d8
              have r9 := v9 d9
              obtain ⟨p1_5, n1_5, c1_5, p2_5, n2_5, c2_5, p3_5, n3_5, c3_5, r5⟩ := r5
              obtain ⟨q_9, r9⟩ := r9
              have c_kr_0 := hH.ext.cell kr_0
              have c_kr_1 := hH.ext.cell kr_1
              have c_kr_2 := hH.ext.cell kr_2
              have c_kv_0 := hH.ext.cell kv_0
              have c_kv_1 := hH.ext.cell kv_1
              have c_kv_2 := hH.ext.cell kv_2
              have c_ku_0 := hH.ext.cell ku_0
              have c_ku_1 := hH.ext.cell ku_1
              have c_ku_2 := hH.ext.cell ku_2
              go_simp
              refine hK.out _ ?_ _ ?_ ?_; rotate_left 2
              · (try simp only [r0, r1, r2, r3, r4, r5, r6, r7, r8, r9]); rfl
              exact ⟨hH, v0, v1, v2, v3, v4, v5, v6, v7, v8, v9, fun _ => rfl⟩
            exact AllSteps.nil
        case hEb =>
          intro b t wb hJ hall
          obtain ⟨hHb, v0, v1, v2, v3, v4, v5, v6, v7, v8, v9, v11⟩ := hJ
          have a0 : b 0 = true := hall 0 (by decide)
          have a1 : b 1 = true := hall 1 (by decide)
          have a2 : b 2 = true := hall 2 (by decide)
          have a3 : b 3 = true := hall 3 (by decide)
          have a4 : b 4 = true := hall 4 (by decide)
          have a5 : b 5 = true := hall 5 (by decide)
          have a6 : b 6 = true := hall 6 (by decide)
          have a7 : b 7 = true := hall 7 (by decide)
          have a8 : b 8 = true := hall 8 (by decide)
          have a9 : b 9 = true := hall 9 (by decide)
          have a10 : b 10 = true := hall 10 (by decide)
          have a11 : b 11 = true := hall 11 (by decide)
          (try simp only [a0, a1, a2, a3, a4, a5, a6, a7, a8, a9, a10, a11, cond_true] at hHb)
          replace v0 := v0 a0
          replace v1 := v1 a1
          replace v2 := v2 a2
          replace v3 := v3 a3
          replace v4 := v4 a4
          replace v5 := v5 a5
          replace v6 := v6 a6
          replace v7 := v7 a7
          replace v8 := v8 a8
          replace v9 := v9 a9
          replace v11 := v11 a11
          clear hall a0 a1 a2 a3 a4 a5 a6 a7 a8 a9 a10 a11
          generalize t 11 = x11 at hHb v11 ⊢
          generalize t 9 = x9 at hHb v9 ⊢
          generalize t 8 = x8 at hHb v8 ⊢
          generalize t 7 = x7 at hHb v7 ⊢
          generalize t 6 = x6 at hHb v6 ⊢
          generalize t 5 = x5 at hHb v5 v6 v7 ⊢
          generalize t 4 = x4 at hHb v4 ⊢
          generalize t 3 = x3 at hHb v3 ⊢
          generalize t 2 = x2 at hHb v2 ⊢
          generalize t 1 = x1 at hHb v1 ⊢
          generalize t 0 = x0 at hHb v0 ⊢
          subst v0
          subst v1
          subst v2
          subst v3
          subst v4
          obtain ⟨p1b5, n1b5, c1b5, p2b5, n2b5, c2b5, p3b5, n3b5, c3b5, rfl⟩ := v5
          subst v6
          subst v7
          subst v8
          obtain ⟨qb9, rfl⟩ := v9
          subst v11
          simp only [blkOf_mk, tup0_mk, partsOf3] at hHb
          clear b
          replace hH := hHb; clear hHb
          replace hH : Held w1 wb [aTs (.slice (some ⟨wa.heap.size, 0, none⟩) m m) cs FT, aB (wr.heap.size) 31 [.slice e1 m1 f1, .slice e2 m2 f2, .slice e3 m3 f3], aT (.agg #[.slice p1b5 n1b5 c1b5, .slice p2b5 n2b5 c2b5, .slice p3b5 n3b5 c3b5]) L (L.map dm) (flat ys), aB qb9 31 [.slice p1b5 n1b5 c1b5, .slice p2b5 n2b5 c2b5, .slice p3b5 n3b5 c3b5]] := hH
          have hFl : FT.length = m := by rw [← HFT.out]; exact fillTs_length HTL.out hj
          obtain ⟨y1, y2, y3, yc1, yc2, yc3, yf1, yf2, yf3, ylt⟩ := OwnTs.cells (hH.get (k := 0) rfl) (i := j) (by omega)
          have q3_0 := (hH.blk (k := 3) rfl).cell (j := 0) rfl
          have q3_1 := (hH.blk (k := 3) rfl).cell (j := 1) rfl
          have q3_2 := (hH.blk (k := 3) rfl).cell (j := 2) rfl
          have l3_ := (hH.blk (k := 3) rfl).lt
          have c_kr_0 := hH.ext.cell kr_0
          have c_kr_1 := hH.ext.cell kr_1
          have c_kr_2 := hH.ext.cell kr_2
          have c_kv_0 := hH.ext.cell kv_0
          have c_kv_1 := hH.ext.cell kv_1
          have c_kv_2 := hH.ext.cell kv_2
          have c_ku_0 := hH.ext.cell ku_0
          have c_ku_1 := hH.ext.cell ku_1
          have c_ku_2 := hH.ext.cell ku_2
          clear hFl
          go_wp2_with fail
          go_roundw
          case rel => exact ⟨j + 1, _, by omega, by go_num, by have hFl : FT.length = m := (by rw [← HFT.out]; exact fillTs_length HTL.out hj); have h := hH.setTs (k1 := 0) (k2 := 2) rfl rfl (by decide) (i := j) (by omega); rw [← HFT.out, fillTs_set HTL.out HTE.out] at h; exact h.sub ((List.nil_sublist _).cons_cons _)⟩
          case measure => simp [RowKit.intOf]; omega
      · skip
        have hje : j = m := by omega
        subst hje
        have hFT := HFT.out; rw [fillTs_all HTL.out] at hFT; subst hFT
        obtain ⟨wb, rfl⟩ : ∃ q, q = wr := ⟨wr, rfl⟩
        clear hlt hj
        go_upto_region 12 with fail
        replace hH := hH.mores 5
        replace hH : Held w1 wb [aTs (.slice (some ⟨wa.heap.size, 0, none⟩) j j) cs ts, emp, emp, emp, emp, emp] := hH
        refine wp_region_steps ?Fc (fun b t wx => Held w1 wx [aTs (.slice (some ⟨wa.heap.size, 0, none⟩) j j) cs ts, (bif b 7 then aI (t 7) LC else (bif b 4 then aI (t 4) L else emp)), (bif b 6 then aI (t 6) [c] else emp), (bif b 16 then aI (t 16) DC else (bif b 12 then aI (t 12) (L.map dm) else emp)), (bif b 15 then aI (t 15) [(j : Int)] else emp), (bif b 19 then aB (blkOf (t 18)) 31 (partsOf (t 17)) else (bif b 18 then aB (blkOf (t 18)) 31 [.slice none 0 0, .slice none 0 0, .slice none 0 0] else emp))] ∧ (b 0 = true → t 0 = .slice (some ⟨bV, oV, none⟩) j cV) ∧ (b 1 = true → t 1 = .pointer (some ⟨bV, oV, none⟩)) ∧ (b 2 = true → t 2 = .pointer (some ⟨bV, oV, none⟩)) ∧ (b 3 = true → t 3 = .slice p1 L.length cp1) ∧ (b 4 = true → ∃ x c, t 4 = .slice x L.length c) ∧ (b 5 = true → t 5 = .int .i64 c) ∧ (b 6 = true → ∃ x c, t 6 = .slice x 1 c) ∧ (b 7 = true → ∃ x c, t 7 = .slice x LC.length c) ∧ (b 8 = true → t 8 = .slice (some ⟨bV, oV, none⟩) j cV) ∧ (b 9 = true → t 9 = .pointer (some ⟨bV, oV, none⟩)) ∧ (b 10 = true → t 10 = .pointer (some ⟨bV, oV + 1, none⟩)) ∧ (b 11 = true → t 11 = .slice p2 L.length cp2) ∧ (b 12 = true → ∃ x c, t 12 = .slice x L.length c) ∧ (b 13 = true → t 13 = .slice (some ⟨bV, oV, none⟩) j cV) ∧ (b 14 = true → t 14 = .int .i64 (j : Int)) ∧ (b 15 = true → ∃ x c, t 15 = .slice x 1 c) ∧ (b 16 = true → ∃ x c, t 16 = .slice x DC.length c) ∧ (b 17 = true → t 17 = .agg #[t 7, t 16, .slice none 0 0]) ∧ (b 18 = true → ∃ q, t 18 = .pointer (some ⟨q, 0, none⟩))) ?hFc (by kernel_rfl) (by kernel_rfl) ?hJc ?hSc ?hEc
        (case hFc => intro t; simp only [putAll, Act.put, List.setIfInBounds_toArray, List.set_cons_zero, List.set_cons_succ, Nat.reduceAdd, Nat.zero_add]; exact rfl)
        case hJc => exact ⟨hH.grow ((Ext.refl _).drew), fun h => absurd h Bool.false_ne_true, fun h => absurd h Bool.false_ne_true, fun h => absurd h Bool.false_ne_true, fun h => absurd h Bool.false_ne_true, fun h => absurd h Bool.false_ne_true, fun h => absurd h Bool.false_ne_true, fun h => absurd h Bool.false_ne_true, fun h => absurd h Bool.false_ne_true, fun h => absurd h Bool.false_ne_true, fun h => absurd h Bool.false_ne_true, fun h => absurd h Bool.false_ne_true, fun h => absurd h Bool.false_ne_true, fun h => absurd h Bool.false_ne_true, fun h => absurd h Bool.false_ne_true, fun h => absurd h Bool.false_ne_true, fun h => absurd h Bool.false_ne_true, fun h => absurd h Bool.false_ne_true, fun h => absurd h Bool.false_ne_true, fun h => absurd h Bool.false_ne_true⟩
        case hSc =>
          as_aux_lemma =>
            refine AllSteps.cons (j := 1) rfl (fun b t wx hJ hb hd hcl Kc hK => ?_) ?_
            · obtain ⟨hH, v0, v1, v2, v3, v4, v5, v6, v7, v8, v9, v10, v11, v12, v13, v14, v15, v16, v17, v18⟩ := hJ
              have c_kr_0 := hH.ext.cell kr_0
              have c_kr_1 := hH.ext.cell kr_1
              have c_kr_2 := hH.ext.cell kr_2
              have c_kv_0 := hH.ext.cell kv_0
              have c_kv_1 := hH.ext.cell kv_1
              have c_kv_2 := hH.ext.cell kv_2
              go_simp
              refine hK.out _ ?_ _ ?_ ?_; rotate_left 2
              · rfl
              exact ⟨hH, fun _ => rfl, v1, v2, v3, v4, v5, v6, v7, v8, v9, v10, v11, v12, v13, v14, v15, v16, v17, v18⟩
            refine AllSteps.cons (j := 2) rfl (fun b t wx hJ hb hd hcl Kc hK => ?_) ?_
            · obtain ⟨hH, v0, v1, v2, v3, v4, v5, v6, v7, v8, v9, v10, v11, v12, v13, v14, v15, v16, v17, v18⟩ := hJ
              have d0 : b 0 = true := hd.out 0 (by kernel_rfl)
              have r0 := v0 d0
              have c_kr_0 := hH.ext.cell kr_0
              have c_kr_1 := hH.ext.cell kr_1
              have c_kr_2 := hH.ext.cell kr_2
              have c_kv_0 := hH.ext.cell kv_0
              have c_kv_1 := hH.ext.cell kv_1
              have c_kv_2 := hH.ext.cell kv_2
              go_simp
              refine hK.out _ ?_ _ ?_ ?_; rotate_left 2
              · (try simp only [r0]); rfl
              exact ⟨hH, v0, fun _ => rfl, v2, v3, v4, v5, v6, v7, v8, v9, v10, v11, v12, v13, v14, v15, v16, v17, v18⟩
            refine AllSteps.cons (j := 3) rfl (fun b t wx hJ hb hd hcl Kc hK => ?_) ?_
            · obtain ⟨hH, v0, v1, v2, v3, v4, v5, v6, v7, v8, v9, v10, v11, v12, v13, v14, v15, v16, v17, v18⟩ := hJ
              have d1 : b 1 = true := hd.out 1 (by kernel_rfl)
              have r1 := v1 d1
              have c_kr_0 := hH.ext.cell kr_0
              have c_kr_1 := hH.ext.cell kr_1
              have c_kr_2 := hH.ext.cell kr_2
              have c_kv_0 := hH.ext.cell kv_0
              have c_kv_1 := hH.ext.cell kv_1
              have c_kv_2 := hH.ext.cell kv_2
              go_simp
              refine hK.out _ ?_ _ ?_ ?_; rotate_left 2
              · (try simp only [r1]); rfl
              exact ⟨hH, v0, v1, fun _ => rfl, v3, v4, v5, v6, v7, v8, v9, v10, v11, v12, v13, v14, v15, v16, v17, v18⟩
            refine AllSteps.cons (j := 4) rfl (fun b t wx hJ hb hd hcl Kc hK => ?_) ?_
            · obtain ⟨hH, v0, v1, v2, v3, v4, v5, v6, v7, v8, v9, v10, v11, v12, v13, v14, v15, v16, v17, v18⟩ := hJ
              have d2 : b 2 = true := hd.out 2 (by kernel_rfl)
              have r2 := v2 d2
              have c_kr_0 := hH.ext.cell kr_0
              have c_kr_1 := hH.ext.cell kr_1
              have c_kr_2 := hH.ext.cell kr_2
              have c_kv_0 := hH.ext.cell kv_0
              have c_kv_1 := hH.ext.cell kv_1
              have c_kv_2 := hH.ext.cell kv_2
              go_simp
              refine hK.out _ ?_ _ ?_ ?_; rotate_left 2
              · (try simp only [r2]); rfl
              exact ⟨hH, v0, v1, v2, fun _ => rfl, v4, v5, v6, v7, v8, v9, v10, v11, v12, v13, v14, v15, v16, v17, v18⟩
            refine AllSteps.cons (j := 5) rfl (fun b t wx hJ hb hd hcl Kc hK => ?_) ?_
            · obtain ⟨hH, v0, v1, v2, v3, v4, v5, v6, v7, v8, v9, v10, v11, v12, v13, v14, v15, v16, v17, v18⟩ := hJ
              have d3 : b 3 = true := hd.out 3 (by kernel_rfl)
              have n7 : b 7 = false := Bool.eq_false_iff.2 fun h => absurd (hcl.out 7 4 (by kernel_rfl) (h)) (by rw [hb]; exact Bool.false_ne_true)
              have r3 := v3 d3
              have hN := hH; (try simp only [hb, d3, n7, cond_true, cond_false] at hN)
              go_simp
              go_at_call 62
              refine (copyInts_any _ L _ (hTL.ext (h1.trans hH.ext)) (by omega)).mono ?_; rintro e4 w4 ⟨v4, rfl, o4, h4⟩
              obtain ⟨x4, c4, rfl, _, _⟩ := o4.ints.val
              (try go_simp)
              refine hK.out _ ?_ _ ?_ ?_; rotate_left 2
              · (try simp only [r3]); rfl
              exact ⟨by have hX := hN.addI 1 h4 o4 (Nat.le_refl _); (try simp only [List.set_cons_zero, List.set_cons_succ] at hX); simpa only [updB, updV, blkOf_mk, tup0_mk, partsOf3, Nat.reduceBEq, cond_true, cond_false, hb, d3, n7, r3] using hX, v0, v1, v2, v3, fun _ => ⟨_, _, rfl⟩, v5, v6, v7, v8, v9, v10, v11, v12, v13, v14, v15, v16, v17, v18⟩
            refine AllSteps.cons (j := 6) rfl (fun b t wx hJ hb hd hcl Kc hK => ?_) ?_
            · obtain ⟨hH, v0, v1, v2, v3, v4, v5, v6, v7, v8, v9, v10, v11, v12, v13, v14, v15, v16, v17, v18⟩ := hJ
              have c_kr_0 := hH.ext.cell kr_0
              have c_kr_1 := hH.ext.cell kr_1
              have c_kr_2 := hH.ext.cell kr_2
              have c_kv_0 := hH.ext.cell kv_0
              have c_kv_1 := hH.ext.cell kv_1
              have c_kv_2 := hH.ext.cell kv_2
              go_simp
              refine hK.out _ ?_ _ ?_ ?_; rotate_left 2
              · rfl
              exact ⟨hH, v0, v1, v2, v3, v4, fun _ => rfl, v6, v7, v8, v9, v10, v11, v12, v13, v14, v15, v16, v17, v18⟩
            refine AllSteps.cons (j := 7) rfl (fun b t wx hJ hb hd hcl Kc hK => ?_) ?_
            · obtain ⟨hH, v0, v1, v2, v3, v4, v5, v6, v7, v8, v9, v10, v11, v12, v13, v14, v15, v16, v17, v18⟩ := hJ
              have d5 : b 5 = true := hd.out 5 (by kernel_rfl)
              have r5 := v5 d5
              have hN := hH; (try simp only [hb, d5, cond_true, cond_false] at hN)
              go_simp
              refine hK.out _ ?_ _ ?_ ?_; rotate_left 2
              · (try simp only [r5]); rfl
              exact ⟨by have hX := hN.built 2 [c] 1 rfl (by simp [maxLen]) #[.int .i64 c] rfl; (try simp only [List.set_cons_zero, List.set_cons_succ] at hX); simpa only [updB, updV, blkOf_mk, tup0_mk, partsOf3, Nat.reduceBEq, cond_true, cond_false, hb, d5, r5] using hX, v0, v1, v2, v3, v4, v5, fun _ => ⟨_, _, rfl⟩, v7, v8, v9, v10, v11, v12, v13, v14, v15, v16, v17, v18⟩
            refine AllSteps.cons (j := 8) rfl (fun b t wx hJ hb hd hcl Kc hK => ?_) ?_
            · obtain ⟨hH, v0, v1, v2, v3, v4, v5, v6, v7, v8, v9, v10, v11, v12, v13, v14, v15, v16, v17, v18⟩ := hJ
              have d4 : b 4 = true := hd.out 4 (by kernel_rfl)
              have d6 : b 6 = true := hd.out 6 (by kernel_rfl)
              have n17 : b 17 = false := Bool.eq_false_iff.2 fun h => absurd (hcl.out 17 7 (by kernel_rfl) (h)) (by rw [hb]; exact Bool.false_ne_true)
              have r4 := v4 d4
              have r6 := v6 d6
              obtain ⟨x_4, c_4, r4⟩ := r4
              obtain ⟨x_6, c_6, r6⟩ := r6
              have hN := hH; (try simp only [hb, d4, d6, n17, cond_true, cond_false] at hN)
              refine step_app wx rfl _ _ 29 rfl (t 4) (t 6) (by first | rfl | (go_simp; done)) (by first | rfl | (go_simp; done)) _ (run_pushes _ wx 0 _ _ L [c] (hN.own (k := 1) rfl).zero (hN.ints (k := 2) rfl) (by first | (simp; omega) | omega) (Nat.zero_le _)) ?_; rintro va wa ⟨oa, ga, na⟩; rw [HLC.out] at oa
              obtain ⟨aa, ca, hva, _, _⟩ := oa.ints.val; subst hva
              refine hK.out _ ?_ _ ?_ ?_; rotate_left 2
              · (try simp only [r4, r6]); rfl
              exact ⟨by have hX := hN.pushed (k := 1) rfl oa ga na; (try simp only [List.set_cons_zero, List.set_cons_succ] at hX); simpa only [updB, updV, blkOf_mk, tup0_mk, partsOf3, Nat.reduceBEq, cond_true, cond_false, hb, d4, d6, n17, r4, r6] using hX, v0, v1, v2, v3, v4, v5, v6, fun _ => ⟨_, _, rfl⟩, v8, v9, v10, v11, v12, v13, v14, v15, v16, fun h => absurd (show b 17 = true from h) (by rw [n17]; exact Bool.false_ne_true), v18⟩
            refine AllSteps.cons (j := 9) rfl (fun b t wx hJ hb hd hcl Kc hK => ?_) ?_
            · obtain ⟨hH, v0, v1, v2, v3, v4, v5, v6, v7, v8, v9, v10, v11, v12, v13, v14, v15, v16, v17, v18⟩ := hJ
              have c_kr_0 := hH.ext.cell kr_0
              have c_kr_1 := hH.ext.cell kr_1
              have c_kr_2 := hH.ext.cell kr_2
              have c_kv_0 := hH.ext.cell kv_0
              have c_kv_1 := hH.ext.cell kv_1
              have c_kv_2 := hH.ext.cell kv_2
              go_simp
              refine hK.out _ ?_ _ ?_ ?_; rotate_left 2
              · rfl
              exact ⟨hH, v0, v1, v2, v3, v4, v5, v6, v7, fun _ => rfl, v9, v10, v11, v12, v13, v14, v15, v16, v17, v18⟩
            refine AllSteps.cons (j := 10) rfl (fun b t wx hJ hb hd hcl Kc hK => ?_) ?_
            · obtain ⟨hH, v0, v1, v2, v3, v4, v5, v6, v7, v8, v9, v10, v11, v12, v13, v14, v15, v16, v17, v18⟩ := hJ
              have d8 : b 8 = true := hd.out 8 (by kernel_rfl)
              have r8 := v8 d8
              have c_kr_0 := hH.ext.cell kr_0
              have c_kr_1 := hH.ext.cell kr_1
              have c_kr_2 := hH.ext.cell kr_2
              have c_kv_0 := hH.ext.cell kv_0
              have c_kv_1 := hH.ext.cell kv_1
              have c_kv_2 := hH.ext.cell kv_2
              go_simp
              refine hK.out _ ?_ _ ?_ ?_; rotate_left 2
              · (try simp only [r8]); rfl
              exact ⟨hH, v0, v1, v2, v3, v4, v5, v6, v7, v8, fun _ => rfl, v10, v11, v12, v13, v14, v15, v16, v17, v18⟩
            refine AllSteps.cons (j := 11) rfl (fun b t wx hJ hb hd hcl Kc hK => ?_) ?_
            · obtain ⟨hH, v0, v1, v2, v3, v4, v5, v6, v7, v8, v9, v10, v11, v12, v13, v14, v15, v16, v17, v18⟩ := hJ
              have d9 : b 9 = true := hd.out 9 (by kernel_rfl)
              have r9 := v9 d9
              have c_kr_0 := hH.ext.cell kr_0
              have c_kr_1 := hH.ext.cell kr_1
              have c_kr_2 := hH.ext.cell kr_2
              have c_kv_0 := hH.ext.cell kv_0
              have c_kv_1 := hH.ext.cell kv_1
              have c_kv_2 := hH.ext.cell kv_2
              go_simp
              refine hK.out _ ?_ _ ?_ ?_; rotate_left 2
              · (try simp only [r9]); rfl
              exact ⟨hH, v0, v1, v2, v3, v4, v5, v6, v7, v8, v9, fun _ => rfl, v11, v12, v13, v14, v15, v16, v17, v18⟩
            refine AllSteps.cons (j := 12) rfl (fun b t wx hJ hb hd hcl Kc hK => ?_) ?_
            · obtain ⟨hH, v0, v1, v2, v3, v4, v5, v6, v7, v8, v9, v10, v11, v12, v13, v14, v15, v16, v17, v18⟩ := hJ
              have d10 : b 10 = true := hd.out 10 (by kernel_rfl)
              have r10 := v10 d10
              have c_kr_0 := hH.ext.cell kr_0
              have c_kr_1 := hH.ext.cell kr_1
              have c_kr_2 := hH.ext.cell kr_2
              have c_kv_0 := hH.ext.cell kv_0
              have c_kv_1 := hH.ext.cell kv_1
              have c_kv_2 := hH.ext.cell kv_2
              go_simp
              refine hK.out _ ?_ _ ?_ ?_; rotate_left 2
              · (try simp only [r10]); rfl
              exact ⟨hH, v0, v1, v2, v3, v4, v5, v6, v7, v8, v9, v10, fun _ => rfl, v12, v13, v14, v15, v16, v17, v18⟩
            refine AllSteps.cons (j := 13) rfl (fun b t wx hJ hb hd hcl Kc hK => ?_) ?_
            · obtain ⟨hH, v0, v1, v2, v3, v4, v5, v6, v7, v8, v9, v10, v11, v12, v13, v14, v15, v16, v17, v18⟩ := hJ
              have d7 : b 7 = true := hd.out 7 (by kernel_rfl)
              have d11 : b 11 = true := hd.out 11 (by kernel_rfl)
              have n16 : b 16 = false := Bool.eq_false_iff.2 fun h => absurd (hcl.out 16 12 (by kernel_rfl) (h)) (by rw [hb]; exact Bool.false_ne_true)
              have r7 := v7 d7
              have r11 := v11 d11
              obtain ⟨x_7, c_7, r7⟩ := r7
              have hN := hH; (try simp only [hb, d7, d11, n16, cond_true, cond_false] at hN)
              go_simp
              go_at_call 62
              refine (copyInts_any _ (L.map dm) _ (by have h := hTD.ext (h1.trans hH.ext); exact h) (by simp; omega)).mono ?_; rintro e12 w12 ⟨v4, rfl, o4, h4⟩
              obtain ⟨x4, c4, rfl⟩ : ∃ a c, v4 = .slice a L.length c := (by obtain ⟨a, c, rfl, _, _⟩ := o4.ints.val; exact ⟨a, c, by simp⟩)
              (try go_simp)
              refine hK.out _ ?_ _ ?_ ?_; rotate_left 2
              · (try simp only [r7, r11]); rfl
              exact ⟨by have hX := hN.addI 3 h4 o4 (Nat.le_refl _); (try simp only [List.set_cons_zero, List.set_cons_succ] at hX); simpa only [updB, updV, blkOf_mk, tup0_mk, partsOf3, Nat.reduceBEq, cond_true, cond_false, hb, d7, d11, n16, r7, r11] using hX, v0, v1, v2, v3, v4, v5, v6, v7, v8, v9, v10, v11, fun _ => ⟨_, _, rfl⟩, v13, v14, v15, v16, v17, v18⟩
            refine AllSteps.cons (j := 14) rfl (fun b t wx hJ hb hd hcl Kc hK => ?_) ?_
            · obtain ⟨hH, v0, v1, v2, v3, v4, v5, v6, v7, v8, v9, v10, v11, v12, v13, v14, v15, v16, v17, v18⟩ := hJ
              have c_kr_0 := hH.ext.cell kr_0
              have c_kr_1 := hH.ext.cell kr_1
              have c_kr_2 := hH.ext.cell kr_2
              have c_kv_0 := hH.ext.cell kv_0
              have c_kv_1 := hH.ext.cell kv_1
              have c_kv_2 := hH.ext.cell kv_2
              go_simp
              refine hK.out _ ?_ _ ?_ ?_; rotate_left 2
              · rfl
              exact ⟨hH, v0, v1, v2, v3, v4, v5, v6, v7, v8, v9, v10, v11, v12, fun _ => rfl, v14, v15, v16, v17, v18⟩
            refine AllSteps.cons (j := 15) rfl (fun b t wx hJ hb hd hcl Kc hK => ?_) ?_
            · obtain ⟨hH, v0, v1, v2, v3, v4, v5, v6, v7, v8, v9, v10, v11, v12, v13, v14, v15, v16, v17, v18⟩ := hJ
              have d13 : b 13 = true := hd.out 13 (by kernel_rfl)
              have r13 := v13 d13
              have c_kr_0 := hH.ext.cell kr_0
              have c_kr_1 := hH.ext.cell kr_1
              have c_kr_2 := hH.ext.cell kr_2
              have c_kv_0 := hH.ext.cell kv_0
              have c_kv_1 := hH.ext.cell kv_1
              have c_kv_2 := hH.ext.cell kv_2
              go_simp
              refine hK.out _ ?_ _ ?_ ?_; rotate_left 2
              · (try simp only [r13]); rfl
              exact ⟨hH, v0, v1, v2, v3, v4, v5, v6, v7, v8, v9, v10, v11, v12, v13, fun _ => rfl, v15, v16, v17, v18⟩
            refine AllSteps.cons (j := 16) rfl (fun b t wx hJ hb hd hcl Kc hK => ?_) ?_
            · obtain ⟨hH, v0, v1, v2, v3, v4, v5, v6, v7, v8, v9, v10, v11, v12, v13, v14, v15, v16, v17, v18⟩ := hJ
              have d14 : b 14 = true := hd.out 14 (by kernel_rfl)
              have r14 := v14 d14
              have hN := hH; (try simp only [hb, d14, cond_true, cond_false] at hN)
              go_simp
              refine hK.out _ ?_ _ ?_ ?_; rotate_left 2
              · (try simp only [r14]); rfl
              exact ⟨by have hX := hN.built 4 [(j : Int)] 1 rfl (by simp [maxLen]) #[.int .i64 (j : Int)] rfl; (try simp only [List.set_cons_zero, List.set_cons_succ] at hX); simpa only [updB, updV, blkOf_mk, tup0_mk, partsOf3, Nat.reduceBEq, cond_true, cond_false, hb, d14, r14] using hX, v0, v1, v2, v3, v4, v5, v6, v7, v8, v9, v10, v11, v12, v13, v14, fun _ => ⟨_, _, rfl⟩, v16, v17, v18⟩
            refine AllSteps.cons (j := 17) rfl (fun b t wx hJ hb hd hcl Kc hK => ?_) ?_
            · obtain ⟨hH, v0, v1, v2, v3, v4, v5, v6, v7, v8, v9, v10, v11, v12, v13, v14, v15, v16, v17, v18⟩ := hJ
              have d12 : b 12 = true := hd.out 12 (by kernel_rfl)
              have d15 : b 15 = true := hd.out 15 (by kernel_rfl)
              have n17 : b 17 = false := Bool.eq_false_iff.2 fun h => absurd (hcl.out 17 16 (by kernel_rfl) (h)) (by rw [hb]; exact Bool.false_ne_true)
              have r12 := v12 d12
              have r15 := v15 d15
              obtain ⟨x_12, c_12, r12⟩ := r12
              obtain ⟨x_15, c_15, r15⟩ := r15
              have hN := hH; (try simp only [hb, d12, d15, n17, cond_true, cond_false] at hN)
              refine step_app wx rfl _ _ 29 rfl (t 12) (t 15) (by first | rfl | (go_simp; done)) (by first | rfl | (go_simp; done)) _ (run_pushes _ wx 0 _ _ (L.map dm) [(j : Int)] (hN.own (k := 3) rfl).zero (hN.ints (k := 4) rfl) (by first | (simp; omega) | omega) (Nat.zero_le _)) ?_; rintro va wa ⟨oa, ga, na⟩; rw [HDC.out] at oa
              obtain ⟨aa, ca, hva, _, _⟩ := oa.ints.val; subst hva
              refine hK.out _ ?_ _ ?_ ?_; rotate_left 2
              · (try simp only [r12, r15]); rfl
              exact ⟨by have hX := hN.pushed (k := 3) rfl oa ga na; (try simp only [List.set_cons_zero, List.set_cons_succ] at hX); simpa only [updB, updV, blkOf_mk, tup0_mk, partsOf3, Nat.reduceBEq, cond_true, cond_false, hb, d12, d15, n17, r12, r15] using hX, v0, v1, v2, v3, v4, v5, v6, v7, v8, v9, v10, v11, v12, v13, v14, v15, fun _ => ⟨_, _, rfl⟩, fun h => absurd (show b 17 = true from h) (by rw [n17]; exact Bool.false_ne_true), v18⟩
            refine AllSteps.cons (j := 18) rfl (fun b t wx hJ hb hd hcl Kc hK => ?_) ?_
            · obtain ⟨hH, v0, v1, v2, v3, v4, v5, v6, v7, v8, v9, v10, v11, v12, v13, v14, v15, v16, v17, v18⟩ := hJ
              have d7 : b 7 = true := hd.out 7 (by kernel_rfl)
              have d16 : b 16 = true := hd.out 16 (by kernel_rfl)
              have n19 : b 19 = false := Bool.eq_false_iff.2 fun h => absurd (hcl.out 19 17 (by kernel_rfl) (h)) (by rw [hb]; exact Bool.false_ne_true)
              have r7 := v7 d7
              have r16 := v16 d16
              obtain ⟨x_7, c_7, r7⟩ := r7
              obtain ⟨x_16, c_16, r16⟩ := r16
              have hN := hH; (try simp only [hb, d7, d16, n19, cond_true, cond_false] at hN)
              go_simp
              refine hK.out _ ?_ _ ?_ ?_; rotate_left 2
              · (try simp only [r7, r16]); rfl
              exact ⟨by have hX := hN; (try simp only [List.set_cons_zero, List.set_cons_succ] at hX); simpa only [updB, updV, blkOf_mk, tup0_mk, partsOf3, Nat.reduceBEq, cond_true, cond_false, hb, d7, d16, n19, r7, r16] using hX, v0, v1, v2, v3, v4, v5, v6, v7, v8, v9, v10, v11, v12, v13, v14, v15, v16, fun _ => (by show Value.agg _ = Value.agg #[t 7, t 16, _]; rw [r7, r16]), v18⟩
            refine AllSteps.cons (j := 19) rfl (fun b t wx hJ hb hd hcl Kc hK => ?_) ?_
            · obtain ⟨hH, v0, v1, v2, v3, v4, v5, v6, v7, v8, v9, v10, v11, v12, v13, v14, v15, v16, v17, v18⟩ := hJ
              have n19 : b 19 = false := Bool.eq_false_iff.2 fun h => absurd (hcl.out 19 18 (by kernel_rfl) (h)) (by rw [hb]; exact Bool.false_ne_true)
              have hN := hH; (try simp only [hb, n19, cond_true, cond_false] at hN)
              go_simp
              refine hK.out _ ?_ _ ?_ ?_; rotate_left 2
              · rfl
              exact ⟨by have hX := hN.addB 5 #[.slice none 0 0, .slice none 0 0, .slice none 0 0] 31; (try simp only [List.set_cons_zero, List.set_cons_succ] at hX); simpa only [updB, updV, blkOf_mk, tup0_mk, partsOf3, Nat.reduceBEq, cond_true, cond_false, hb, n19] using hX, v0, v1, v2, v3, v4, v5, v6, v7, v8, v9, v10, v11, v12, v13, v14, v15, v16, v17, fun _ => ⟨_, rfl⟩⟩
            refine AllSteps.cons (j := 20) rfl (fun b t wx hJ hb hd hcl Kc hK => ?_) ?_
            · obtain ⟨hH, v0, v1, v2, v3, v4, v5, v6, v7, v8, v9, v10, v11, v12, v13, v14, v15, v16, v17, v18⟩ := hJ
              have d0 : b 0 = true := hd.out 0 (by kernel_rfl)
              have d1 : b 1 = true := hd.out 1 (by kernel_rfl)
              have d2 : b 2 = true := hd.out 2 (by kernel_rfl)
              have d3 : b 3 = true := hd.out 3 (by kernel_rfl)
              have d4 : b 4 = true := hd.out 4 (by kernel_rfl)
              have d5 : b 5 = true := hd.out 5 (by kernel_rfl)
              have d6 : b 6 = true := hd.out 6 (by kernel_rfl)
              have d7 : b 7 = true := hd.out 7 (by kernel_rfl)
              have d8 : b 8 = true := hd.out 8 (by kernel_rfl)
              have d9 : b 9 = true := hd.out 9 (by kernel_rfl)
              have d10 : b 10 = true := hd.out 10 (by kernel_rfl)
              have d11 : b 11 = true := hd.out 11 (by kernel_rfl)
              have d12 : b 12 = true := hd.out 12 (by kernel_rfl)
              have d13 : b 13 = true := hd.out 13 (by kernel_rfl)
              have d14 : b 14 = true := hd.out 14 (by kernel_rfl)
              have d15 : b 15 = true := hd.out 15 (by kernel_rfl)
              have d16 : b 16 = true := hd.out 16 (by kernel_rfl)
              have d17 : b 17 = true := hd.out 17 (by kernel_rfl)
              have d18 : b 18 = true := hd.out 18 (by kernel_rfl)
              have r0 := v0 d0
              have r1 := v1 d1
              have r2 := v2 d2
              have r3 := v3 d3
              have r4 := v4 d4
              have r5 := v5 d5
              have r6 := v6 d6
              have r7 := v7 d7
              have r8 := v8 d8
              have r9 := v9 d9
              have r10 := v10 d10
              have r11 := v11 d11
              have r12 := v12 d12
              have r13 := v13 d13
              have r14 := v14 d14
              have r15 := v15 d15
              have r16 := v16 d16
              have r17 := v17 d17
              have r18 := v18 d18
              obtain ⟨x_4, c_4, r4⟩ := r4
              obtain ⟨x_6, c_6, r6⟩ := r6
              obtain ⟨x_7, c_7, r7⟩ := r7
              obtain ⟨x_12, c_12, r12⟩ := r12
              obtain ⟨x_15, c_15, r15⟩ := r15
              obtain ⟨x_16, c_16, r16⟩ := r16
              obtain ⟨q_18, r18⟩ := r18
              have hN := hH; (try simp only [hb, d0, d1, d2, d3, d4, d5, d6, d7, d8, d9, d10, d11, d12, d13, d14, d15, d16, d17, d18, cond_true, cond_false] at hN)
              rw [r7, r16] at r17 -- d7 d16
              simp only [r18, r17, blkOf_mk, tup0_mk, partsOf3] at hN
              have B := hN.blk (k := 5) rfl
              have f0 := B.free 0; have z0 := B.cell (j := 0) rfl
              have f1 := B.free 1; have z1 := B.cell (j := 1) rfl
              have f2 := B.free 2; have z2 := B.cell (j := 2) rfl
              have lB := B.lt; have hmk0 := @tup0_mk
              go_simp
              refine hK.out _ undef _ ?_ ?_; rotate_left 1
              · (try simp only [r0, r1, r2, r3, r4, r5, r6, r7, r8, r9, r10, r11, r12, r13, r14, r15, r16, r17, r18]); rfl
              exact ⟨by have hX := hN.setB3' (k := 5) rfl (.slice x_7 LC.length c_7) (.slice x_16 DC.length c_16) (.slice none 0 0); (try simp only [List.set_cons_zero, List.set_cons_succ] at hX); simpa only [updB, updV, blkOf_mk, tup0_mk, partsOf3, Nat.reduceBEq, cond_true, cond_false, hb, d0, d1, d2, d3, d4, d5, d6, d7, d8, d9, d10, d11, d12, d13, d14, d15, d16, d17, d18, r0, r1, r2, r3, r4, r5, r6, r7, r8, r9, r10, r11, r12, r13, r14, r15, r16, r17, r18] using hX, v0, v1, v2, v3, v4, v5, v6, v7, v8, v9, v10, v11, v12, v13, v14, v15, v16, v17, v18⟩
            exact AllSteps.nil
        case hEc =>
          intro b t wc hJ hall
          obtain ⟨hHc, v0, v1, v2, v3, v4, v5, v6, v7, v8, v9, v10, v11, v12, v13, v14, v15, v16, v17, v18⟩ := hJ
          have a0 : b 0 = true := hall 0 (by decide)
          have a1 : b 1 = true := hall 1 (by decide)
          have a2 : b 2 = true := hall 2 (by decide)
          have a3 : b 3 = true := hall 3 (by decide)
          have a4 : b 4 = true := hall 4 (by decide)
          have a5 : b 5 = true := hall 5 (by decide)
          have a6 : b 6 = true := hall 6 (by decide)
          have a7 : b 7 = true := hall 7 (by decide)
          have a8 : b 8 = true := hall 8 (by decide)
          have a9 : b 9 = true := hall 9 (by decide)
          have a10 : b 10 = true := hall 10 (by decide)
          have a11 : b 11 = true := hall 11 (by decide)
          have a12 : b 12 = true := hall 12 (by decide)
          have a13 : b 13 = true := hall 13 (by decide)
          have a14 : b 14 = true := hall 14 (by decide)
          have a15 : b 15 = true := hall 15 (by decide)
          have a16 : b 16 = true := hall 16 (by decide)
          have a17 : b 17 = true := hall 17 (by decide)
          have a18 : b 18 = true := hall 18 (by decide)
          have a19 : b 19 = true := hall 19 (by decide)
          (try simp only [a0, a1, a2, a3, a4, a5, a6, a7, a8, a9, a10, a11, a12, a13, a14, a15, a16, a17, a18, a19, cond_true] at hHc)
          replace v0 := v0 a0
          replace v1 := v1 a1
          replace v2 := v2 a2
          replace v3 := v3 a3
          replace v4 := v4 a4
          replace v5 := v5 a5
          replace v6 := v6 a6
          replace v7 := v7 a7
          replace v8 := v8 a8
          replace v9 := v9 a9
          replace v10 := v10 a10
          replace v11 := v11 a11
          replace v12 := v12 a12
          replace v13 := v13 a13
          replace v14 := v14 a14
          replace v15 := v15 a15
          replace v16 := v16 a16
          replace v17 := v17 a17
          replace v18 := v18 a18
          clear hall a0 a1 a2 a3 a4 a5 a6 a7 a8 a9 a10 a11 a12 a13 a14 a15 a16 a17 a18 a19
          generalize t 18 = x18 at hHc v18 ⊢
          generalize t 17 = x17 at hHc v17 ⊢
          generalize t 16 = x16 at hHc v16 v17 ⊢
          generalize t 15 = x15 at hHc v15 ⊢
          generalize t 14 = x14 at hHc v14 ⊢
          generalize t 13 = x13 at hHc v13 ⊢
          generalize t 12 = x12 at hHc v12 ⊢
          generalize t 11 = x11 at hHc v11 ⊢
          generalize t 10 = x10 at hHc v10 ⊢
          generalize t 9 = x9 at hHc v9 ⊢
          generalize t 8 = x8 at hHc v8 ⊢
          generalize t 7 = x7 at hHc v7 v17 ⊢
          generalize t 6 = x6 at hHc v6 ⊢
          generalize t 5 = x5 at hHc v5 ⊢
          generalize t 4 = x4 at hHc v4 ⊢
          generalize t 3 = x3 at hHc v3 ⊢
          generalize t 2 = x2 at hHc v2 ⊢
          generalize t 1 = x1 at hHc v1 ⊢
          generalize t 0 = x0 at hHc v0 ⊢
          subst v0
          subst v1
          subst v2
          subst v3
          obtain ⟨xc4, cc4, rfl⟩ := v4
          subst v5
          obtain ⟨xc6, cc6, rfl⟩ := v6
          obtain ⟨xc7, cc7, rfl⟩ := v7
          subst v8
          subst v9
          subst v10
          subst v11
          obtain ⟨xc12, cc12, rfl⟩ := v12
          subst v13
          subst v14
          obtain ⟨xc15, cc15, rfl⟩ := v15
          obtain ⟨xc16, cc16, rfl⟩ := v16
          subst v17
          obtain ⟨qc18, rfl⟩ := v18
          simp only [blkOf_mk, tup0_mk, partsOf3] at hHc
          clear b
          replace hH := hHc; clear hHc
          replace hH : Held w1 wc [aTs (.slice (some ⟨wa.heap.size, 0, none⟩) j j) cs ts, aI (.slice xc7 LC.length cc7) LC, aI (.slice xc6 1 cc6) [c], aI (.slice xc16 DC.length cc16) DC, aI (.slice xc15 1 cc15) [(j : Int)], aB qc18 31 [.slice xc7 LC.length cc7, .slice xc16 DC.length cc16, .slice none 0 0]] := hH
          have q5_0 := (hH.blk (k := 5) rfl).cell (j := 0) rfl
          have q5_1 := (hH.blk (k := 5) rfl).cell (j := 1) rfl
          have q5_2 := (hH.blk (k := 5) rfl).cell (j := 2) rfl
          have l5_ := (hH.blk (k := 5) rfl).lt
          have c_kr_0 := hH.ext.cell kr_0
          have c_kr_1 := hH.ext.cell kr_1
          have c_kr_2 := hH.ext.cell kr_2
          have c_kv_0 := hH.ext.cell kv_0
          have c_kv_1 := hH.ext.cell kv_1
          have c_kv_2 := hH.ext.cell kv_2
          go_wp2_with fail
          clear q5_0 q5_1 q5_2 l5_ c_kr_0 c_kr_1 c_kr_2 c_kv_0 c_kv_1 c_kv_2
          refine (tensorSize_impl _ LC DC [] _ ⟨_, _, _, rfl, (hH.ints (k := 1) rfl), (hH.ints (k := 3) rfl), IntS.nil _⟩).mono ?_; rintro ewn2 wn2 ⟨rfl, hwn2⟩
          rw [HPZ.out]
          replace hH : Held w1 wn2 [aTs (.slice (some ⟨wa.heap.size, 0, none⟩) j j) cs ts, aI (.slice xc7 LC.length cc7) LC, aI (.slice xc6 1 cc6) [c], aI (.slice xc16 DC.length cc16) DC, aI (.slice xc15 1 cc15) [(j : Int)], aB qc18 31 [.slice xc7 LC.length cc7, .slice xc16 DC.length cc16, .slice none 0 0]] := hH.grow hwn2
          clear hwn2
          have q5_0 := (hH.blk (k := 5) rfl).cell (j := 0) rfl
          have q5_1 := (hH.blk (k := 5) rfl).cell (j := 1) rfl
          have q5_2 := (hH.blk (k := 5) rfl).cell (j := 2) rfl
          have l5_ := (hH.blk (k := 5) rfl).lt
          have c_kr_0 := hH.ext.cell kr_0
          have c_kr_1 := hH.ext.cell kr_1
          have c_kr_2 := hH.ext.cell kr_2
          have c_kv_0 := hH.ext.cell kv_0
          have c_kv_1 := hH.ext.cell kv_1
          have c_kv_2 := hH.ext.cell kv_2
          go_wp2_with fail
          clear q5_0 q5_1 q5_2 l5_ c_kr_0 c_kr_1 c_kr_2 c_kv_0 c_kv_1 c_kv_2
          replace hH : Held w1 wn2 [aTs (.slice (some ⟨wa.heap.size, 0, none⟩) j j) cs ts, aI (.slice xc7 LC.length cc7) LC, aI (.slice xc16 DC.length cc16) DC, aB qc18 31 [.slice xc7 LC.length cc7, .slice xc16 DC.length cc16, .slice none 0 0]] := hH.sub (.cons_cons _ (.cons_cons _ (.cons _ (.cons_cons _ (.cons _ (.cons_cons _ .slnil))))))
          replace hH : Held w1 wn2 [aTs (.slice (some ⟨wa.heap.size, 0, none⟩) j j) cs ts, aI (.slice xc7 LC.length cc7) LC, aI (.slice xc16 DC.length cc16) DC, aB qc18 31 [.slice xc7 LC.length cc7, .slice xc16 DC.length cc16, .slice none 0 0], aI (.slice none 0 0) []] := hH.nilI
          go_loopw [14] (fun i wr => ∃ (o : Nat) (vD : Value), o ≤ Z ∧ i = .int .i64 (o : Int) ∧ Held w1 wr [aTs (.slice (some ⟨wa.heap.size, 0, none⟩) j j) cs ts, aI (.slice xc7 LC.length cc7) LC, aI (.slice xc16 DC.length cc16) DC, aB qc18 31 [.slice xc7 LC.length cc7, .slice xc16 DC.length cc16, vD], aI (vD) (flat (stackXs xss o))]) (fun i wr => Z - (RowKit.intOf i).toNat)
          case atStart => exact ⟨0, _, Nat.zero_le _, rfl, hH⟩
          case round =>
            clear hH
            obtain ⟨o, vD, ho, rfl, hH⟩ := hrel
            obtain ⟨wo, rfl⟩ : ∃ q, q = wr := ⟨wr, rfl⟩
            by_cases hlo : o < Z
            · skip
              have c_kr_0 := hH.ext.cell kr_0
              have c_kr_1 := hH.ext.cell kr_1
              have c_kr_2 := hH.ext.cell kr_2
              have c_kv_0 := hH.ext.cell kv_0
              have c_kv_1 := hH.ext.cell kv_1
              have c_kv_2 := hH.ext.cell kv_2
              go_wp2_with fail
              clear c_kr_0 c_kr_1 c_kr_2 c_kv_0 c_kv_1 c_kv_2
              refine (productOf_any _ (L.map dm) _ (by have h := hTD.ext (h1.trans hH.ext); exact h) HDL.out HDS.out).mono ?_; rintro e16 w16 ⟨rfl, rfl⟩; rw [HZ1.out]
              have c_kr_0 := hH.ext.cell kr_0
              have c_kr_1 := hH.ext.cell kr_1
              have c_kr_2 := hH.ext.cell kr_2
              have c_kv_0 := hH.ext.cell kv_0
              have c_kv_1 := hH.ext.cell kv_1
              have c_kv_2 := hH.ext.cell kv_2
              go_wp2_with fail
              clear c_kr_0 c_kr_1 c_kr_2 c_kv_0 c_kv_1 c_kv_2
              go_loopw [99] (fun i wr => ∃ (q : Nat) (vD : Value), q ≤ j ∧ i = .int .i64 (q : Int) ∧ Held w1 wr [aTs (.slice (some ⟨wa.heap.size, 0, none⟩) j j) cs ts, aI (.slice xc7 LC.length cc7) LC, aI (.slice xc16 DC.length cc16) DC, aB qc18 31 [.slice xc7 LC.length cc7, .slice xc16 DC.length cc16, vD], aI (vD) (flat (stackXs xss o ++ stackRow (xss.take q) o))]) (fun i wr => j - (RowKit.intOf i).toNat)
              case atStart => exact ⟨0, _, Nat.zero_le _, rfl, by rw [List.take_zero]; have e : stackRow ([] : List (List (El k p n))) o = [] := rfl; rw [e, List.append_nil]; exact hH⟩
              case round =>
                clear hH
                obtain ⟨q, vD', hq, rfl, hH⟩ := hrel
                obtain ⟨FD, hFD⟩ : ∃ x, flat (stackXs xss o ++ stackRow (xss.take q) o) = x := ⟨_, rfl⟩
                have hFl : FD.length ≤ 300000 := by rw [← hFD, flat_length HWW.out]; exact stack_small HX8.out (by omega) hW6
                rw [hFD] at hH; have HFD := Lib.hid hFD; clear hFD
                obtain ⟨aD, cD, rfl, _, _⟩ := (hH.ints (k := 4) rfl).val
                by_cases hlq : q < j
                · skip
                  obtain ⟨ys, hys, hty, hTy⟩ := HG.out q hlq
                  obtain ⟨u1, u2, u3, hcs, hu0, hu1, hu2, hu3, hu4, hu5, hbl⟩ := OwnTs.get (hH.get (k := 0) rfl) hty
                  have hyl : ys.length = Z := by rw [hTy.len]; exact HZ.out
                  obtain ⟨y, hy⟩ : ∃ y, ys[o]? = some y := ⟨_, List.getElem?_eq_getElem (by omega)⟩
                  obtain ⟨hf1, hf2⟩ := flat_at HWW.out hy
                  have hfl : (flat ys).length ≤ 1048576 := by rw [flat_length HWW.out, hyl]; have := Nat.mul_le_mul hZ2 hW6; omega
                  have hf0 : 0 < (flat ys).length := by omega
                  obtain ⟨e1, f1, rfl, _, _⟩ := hu3.ints.val
                  obtain ⟨e2, f2, rfl, _, _⟩ := hu4.ints.val
                  obtain ⟨bE, cE, _, rfl, hcE, _⟩ := hu5.open hf0
                  rw [List.length_map] at hu1 hcs
                  have HCS := Lib.hid hcs; have HTS1 := Lib.hid hty
                  have HYS := Lib.hid hys; have HYO := Lib.hid hy; have HF2 := Lib.hid hf2; clear hTy hty hys hy hf2 hyl hcs hu3 hu4 hu5
                  have c_kr_0 := hH.ext.cell kr_0
                  have c_kr_1 := hH.ext.cell kr_1
                  have c_kr_2 := hH.ext.cell kr_2
                  have c_kv_0 := hH.ext.cell kv_0
                  have c_kv_1 := hH.ext.cell kv_1
                  have c_kv_2 := hH.ext.cell kv_2
                  go_upto_region 21 with fail
                  clear c_kr_0 c_kr_1 c_kr_2 c_kv_0 c_kv_1 c_kv_2
                  clear hu0 hu1 hu2 hbl
                  have hB : Held w1 (wr.alloc (.cells #[.slice e1 L.length f1, .slice e2 L.length f2, .slice (some ⟨bE, 0, none⟩) (flat ys).length cE] 31)) [aTs (.slice (some ⟨wa.heap.size, 0, none⟩) j j) cs ts, aI (.slice xc7 LC.length cc7) LC, aI (.slice xc16 DC.length cc16) DC, aB qc18 31 [.slice xc7 LC.length cc7, .slice xc16 DC.length cc16, .slice aD FD.length cD], aI (.slice aD FD.length cD) FD, aB (wr.heap.size) 31 [.slice e1 L.length f1, .slice e2 L.length f2, .slice (some ⟨bE, 0, none⟩) (flat ys).length cE]] := by
                    have h := (hH.mores 1).addB 5 #[.slice e1 L.length f1, .slice e2 L.length f2, .slice (some ⟨bE, 0, none⟩) (flat ys).length cE] 31
                    exact h
                  have hsz : (wr.alloc (.cells #[.slice e1 L.length f1, .slice e2 L.length f2, .slice (some ⟨bE, 0, none⟩) (flat ys).length cE] 31)).heap.size = wr.heap.size + 1 := by simp
                  generalize wr.alloc (.cells #[.slice e1 L.length f1, .slice e2 L.length f2, .slice (some ⟨bE, 0, none⟩) (flat ys).length cE] 31) = wn3 at hB hsz ⊢
                  replace hH := hB; have HSZwn3 := Lib.hid hsz; clear hB hsz
                  obtain ⟨F2, hF2⟩ : ∃ x, FD ++ y.1 = x := ⟨_, rfl⟩
                  have HF3 := Lib.hid hF2; clear hF2
                  have hyW : y.1.length = W := El.len HWW.out y
                  have HYW := Lib.hid hyW; clear hyW
                  have hoW : ((o : Int) * (W : Int)) = ((o * W : Nat) : Int) := by push_cast; rfl
                  have HOW := Lib.hid hoW; clear hoW
                  refine wp_region_steps ?Fe (fun b t wx => Held w1 wx [aTs (.slice (some ⟨wa.heap.size, 0, none⟩) j j) cs ts, aI (.slice xc7 LC.length cc7) LC, aI (.slice xc16 DC.length cc16) DC, (bif b 8 then aB qc18 31 [.slice xc7 LC.length cc7, .slice xc16 DC.length cc16, t 6] else aB qc18 31 [.slice xc7 LC.length cc7, .slice xc16 DC.length cc16, .slice aD FD.length cD]), (bif b 6 then aI (t 6) F2 else aI (.slice aD FD.length cD) FD), aB (wr.heap.size) 31 [.slice e1 L.length f1, .slice e2 L.length f2, .slice (some ⟨bE, 0, none⟩) (flat ys).length cE]] ∧ (b 0 = true → t 0 = .pointer (some ⟨qc18, 2, none⟩)) ∧ (b 1 = true → t 1 = .slice aD FD.length cD) ∧ (b 2 = true → t 2 = .agg #[.int .i64 k, .int .i64 p, .int .i64 n]) ∧ (b 3 = true → t 3 = .agg #[.slice e1 L.length f1, .slice e2 L.length f2, .slice (some ⟨bE, 0, none⟩) (flat ys).length cE]) ∧ (b 4 = true → t 4 = .int .i64 (o : Int)) ∧ (b 5 = true → t 5 = .slice (some ⟨bE, o * W, none⟩) W (cE - o * W)) ∧ (b 6 = true → ∃ x c, t 6 = .slice x F2.length c) ∧ (b 7 = true → t 7 = .pointer (some ⟨qc18, 2, none⟩))) ?hFe (by kernel_rfl) (by kernel_rfl) ?hJe ?hSe ?hEe
                  (case hFe => intro t; simp only [putAll, Act.put, List.setIfInBounds_toArray, List.set_cons_zero, List.set_cons_succ, Nat.reduceAdd, Nat.zero_add]; exact rfl)
                  case hJe => exact ⟨hH.grow ((Ext.refl _).drew), fun h => absurd h Bool.false_ne_true, fun h => absurd h Bool.false_ne_true, fun h => absurd h Bool.false_ne_true, fun h => absurd h Bool.false_ne_true, fun h => absurd h Bool.false_ne_true, fun h => absurd h Bool.false_ne_true, fun h => absurd h Bool.false_ne_true, fun h => absurd h Bool.false_ne_true⟩
                  case hSe =>
                    as_aux_lemma =>
                      refine AllSteps.cons (j := 1) rfl (fun b t wx hJ hb hd hcl Kc hK => ?_) ?_
                      · obtain ⟨hH, v0, v1, v2, v3, v4, v5, v6, v7⟩ := hJ
                        have c_kr_0 := hH.ext.cell kr_0
                        have c_kr_1 := hH.ext.cell kr_1
                        have c_kr_2 := hH.ext.cell kr_2
                        have c_kv_0 := hH.ext.cell kv_0
                        have c_kv_1 := hH.ext.cell kv_1
                        have c_kv_2 := hH.ext.cell kv_2
                        go_simp
                        refine hK.out _ ?_ _ ?_ ?_; rotate_left 2
                        · rfl
                        exact ⟨hH, fun _ => rfl, v1, v2, v3, v4, v5, v6, v7⟩
                      refine AllSteps.cons (j := 2) rfl (fun b t wx hJ hb hd hcl Kc hK => ?_) ?_
                      · obtain ⟨hH, v0, v1, v2, v3, v4, v5, v6, v7⟩ := hJ
                        have d0 : b 0 = true := hd.out 0 (by kernel_rfl)
                        have n8 : b 8 = false := Bool.eq_false_iff.2 fun h => absurd (hcl.out 8 1 (by kernel_rfl) (h)) (by rw [hb]; exact Bool.false_ne_true)
                        have r0 := v0 d0
                        have hN := hH; (try simp only [hb, d0, n8, cond_true, cond_false] at hN)
                        have c_kr_0 := hH.ext.cell kr_0
                        have c_kr_1 := hH.ext.cell kr_1
                        have c_kr_2 := hH.ext.cell kr_2
                        have c_kv_0 := hH.ext.cell kv_0
                        have c_kv_1 := hH.ext.cell kv_1
                        have c_kv_2 := hH.ext.cell kv_2
                        have q3_2 := (hN.blk (k := 3) rfl).cell (j := 2) rfl
                        go_simp
                        refine hK.out _ ?_ _ ?_ ?_; rotate_left 2
                        · (try simp only [r0]); rfl
                        exact ⟨hH, v0, fun _ => rfl, v2, v3, v4, v5, v6, v7⟩
                      refine AllSteps.cons (j := 3) rfl (fun b t wx hJ hb hd hcl Kc hK => ?_) ?_
                      · obtain ⟨hH, v0, v1, v2, v3, v4, v5, v6, v7⟩ := hJ
                        have c_kr_0 := hH.ext.cell kr_0
                        have c_kr_1 := hH.ext.cell kr_1
                        have c_kr_2 := hH.ext.cell kr_2
                        have c_kv_0 := hH.ext.cell kv_0
                        have c_kv_1 := hH.ext.cell kv_1
                        have c_kv_2 := hH.ext.cell kv_2
                        go_simp
                        refine hK.out _ ?_ _ ?_ ?_; rotate_left 2
                        · rfl
                        exact ⟨hH, v0, v1, fun _ => rfl, v3, v4, v5, v6, v7⟩
                      refine AllSteps.cons (j := 4) rfl (fun b t wx hJ hb hd hcl Kc hK => ?_) ?_
                      · obtain ⟨hH, v0, v1, v2, v3, v4, v5, v6, v7⟩ := hJ
                        have c_kr_0 := hH.ext.cell kr_0
                        have c_kr_1 := hH.ext.cell kr_1
                        have c_kr_2 := hH.ext.cell kr_2
                        have c_kv_0 := hH.ext.cell kv_0
                        have c_kv_1 := hH.ext.cell kv_1
                        have c_kv_2 := hH.ext.cell kv_2
                        have q5_0 := (hH.blk (k := 5) rfl).cell (j := 0) rfl
                        have q5_1 := (hH.blk (k := 5) rfl).cell (j := 1) rfl
                        have q5_2 := (hH.blk (k := 5) rfl).cell (j := 2) rfl
                        go_simp
                        refine hK.out _ ?_ _ ?_ ?_; rotate_left 2
                        · rfl
                        exact ⟨hH, v0, v1, v2, fun _ => rfl, v4, v5, v6, v7⟩
                      refine AllSteps.cons (j := 5) rfl (fun b t wx hJ hb hd hcl Kc hK => ?_) ?_
                      · obtain ⟨hH, v0, v1, v2, v3, v4, v5, v6, v7⟩ := hJ
                        have c_kr_0 := hH.ext.cell kr_0
                        have c_kr_1 := hH.ext.cell kr_1
                        have c_kr_2 := hH.ext.cell kr_2
                        have c_kv_0 := hH.ext.cell kv_0
                        have c_kv_1 := hH.ext.cell kv_1
                        have c_kv_2 := hH.ext.cell kv_2
                        go_simp
                        refine hK.out _ ?_ _ ?_ ?_; rotate_left 2
                        · rfl
                        exact ⟨hH, v0, v1, v2, v3, fun _ => rfl, v5, v6, v7⟩
                      refine AllSteps.cons (j := 6) rfl (fun b t wx hJ hb hd hcl Kc hK => ?_) ?_
                      · obtain ⟨hH, v0, v1, v2, v3, v4, v5, v6, v7⟩ := hJ
                        have d2 : b 2 = true := hd.out 2 (by kernel_rfl)
                        have d3 : b 3 = true := hd.out 3 (by kernel_rfl)
                        have d4 : b 4 = true := hd.out 4 (by kernel_rfl)
                        have r2 := v2 d2
                        have r3 := v3 d3
                        have r4 := v4 d4
                        go_simp
                        go_at_call 57
                        refine (rawElem_gen k p n (o : Int) (o * W) W HWW.out _ _ _ _ _ _ bE 0 (flat ys).length cE wx HOW.out (Int.natCast_nonneg _) hw hf1 hcE hfl).mono ?_; rintro e5 w5 ⟨rfl, h5⟩
                        (try go_simp)
                        refine hK.out _ ?_ _ ?_ ?_; rotate_left 2
                        · (try simp only [r2, r3, r4]); rfl
                        exact ⟨by have hX := hH.grow h5; (try simp only [List.set_cons_zero, List.set_cons_succ] at hX); simpa only [updB, updV, blkOf_mk, tup0_mk, partsOf3, Nat.reduceBEq, cond_true, cond_false, hb, d2, d3, d4, r2, r3, r4] using hX, v0, v1, v2, v3, v4, fun _ => rfl, v6, v7⟩
                      refine AllSteps.cons (j := 7) rfl (fun b t wx hJ hb hd hcl Kc hK => ?_) ?_
                      · obtain ⟨hH, v0, v1, v2, v3, v4, v5, v6, v7⟩ := hJ
                        have d1 : b 1 = true := hd.out 1 (by kernel_rfl)
                        have d5 : b 5 = true := hd.out 5 (by kernel_rfl)
                        have n8 : b 8 = false := Bool.eq_false_iff.2 fun h => absurd (hcl.out 8 6 (by kernel_rfl) (h)) (by rw [hb]; exact Bool.false_ne_true)
                        have r1 := v1 d1
                        have r5 := v5 d5
                        have hN := hH; (try simp only [hb, d1, d5, n8, cond_true, cond_false] at hN)
                        refine step_app wx rfl _ _ 29 rfl (.slice aD FD.length cD) (.slice (some ⟨bE, o * W, none⟩) W (cE - o * W)) (by first | rfl | (go_simp; done)) (by first | rfl | (go_simp; done)) _ (run_pushes _ wx 0 _ _ FD y.1 (hN.own (k := 4) rfl).zero (by have h := IntS.part (OwnTs.elem (hH.get (k := 0) rfl) q _ _ HCS.out HTS1.out).2.2.ints (W := W) (o := o * W) hW1' hf1; rw [HF2.out, Nat.zero_add] at h; exact h) (by have := HYW.out; omega) (Nat.zero_le _)) ?_; rintro va wa ⟨oa, ga, na⟩; rw [HF3.out] at oa
                        obtain ⟨aa, ca, hva, _, _⟩ := oa.ints.val; subst hva
                        refine hK.out _ ?_ _ ?_ ?_; rotate_left 2
                        · (try simp only [r1, r5]); rfl
                        exact ⟨by have hX := hN.pushed (k := 4) rfl oa ga na; (try simp only [List.set_cons_zero, List.set_cons_succ] at hX); simpa only [updB, updV, blkOf_mk, tup0_mk, partsOf3, Nat.reduceBEq, cond_true, cond_false, hb, d1, d5, n8, r1, r5] using hX, v0, v1, v2, v3, v4, v5, fun _ => ⟨_, _, rfl⟩, v7⟩
                      refine AllSteps.cons (j := 8) rfl (fun b t wx hJ hb hd hcl Kc hK => ?_) ?_
                      · obtain ⟨hH, v0, v1, v2, v3, v4, v5, v6, v7⟩ := hJ
                        have d0 : b 0 = true := hd.out 0 (by kernel_rfl)
                        have d1 : b 1 = true := hd.out 1 (by kernel_rfl)
                        have d2 : b 2 = true := hd.out 2 (by kernel_rfl)
                        have d3 : b 3 = true := hd.out 3 (by kernel_rfl)
                        have d4 : b 4 = true := hd.out 4 (by kernel_rfl)
                        have d5 : b 5 = true := hd.out 5 (by kernel_rfl)
                        have d6 : b 6 = true := hd.out 6 (by kernel_rfl)
                        have r0 := v0 d0
                        have r1 := v1 d1
                        have r2 := v2 d2
                        have r3 := v3 d3
                        have r4 := v4 d4
                        have r5 := v5 d5
                        have r6 := v6 d6
                        obtain ⟨x_6, c_6, r6⟩ := r6
                        have c_kr_0 := hH.ext.cell kr_0
                        have c_kr_1 := hH.ext.cell kr_1
                        have c_kr_2 := hH.ext.cell kr_2
                        have c_kv_0 := hH.ext.cell kv_0
                        have c_kv_1 := hH.ext.cell kv_1
                        have c_kv_2 := hH.ext.cell kv_2
                        go_simp
                        refine hK.out _ ?_ _ ?_ ?_; rotate_left 2
                        · (try simp only [r0, r1, r2, r3, r4, r5, r6]); rfl
                        exact ⟨hH, v0, v1, v2, v3, v4, v5, v6, fun _ => rfl⟩
                      refine AllSteps.cons (j := 9) rfl (fun b t wx hJ hb hd hcl Kc hK => ?_) ?_
                      · obtain ⟨hH, v0, v1, v2, v3, v4, v5, v6, v7⟩ := hJ
                        have d0 : b 0 = true := hd.out 0 (by kernel_rfl)
                        have d1 : b 1 = true := hd.out 1 (by kernel_rfl)
                        have d2 : b 2 = true := hd.out 2 (by kernel_rfl)
                        have d3 : b 3 = true := hd.out 3 (by kernel_rfl)
                        have d4 : b 4 = true := hd.out 4 (by kernel_rfl)
                        have d5 : b 5 = true := hd.out 5 (by kernel_rfl)
                        have d6 : b 6 = true := hd.out 6 (by kernel_rfl)
                        have d7 : b 7 = true := hd.out 7 (by kernel_rfl)
                        have r0 := v0 d0
                        have r1 := v1 d1
                        have r2 := v2 d2
                        have r3 := v3 d3
                        have r4 := v4 d4
                        have r5 := v5 d5
                        have r6 := v6 d6
                        have r7 := v7 d7
                        obtain ⟨x_6, c_6, r6⟩ := r6
                        have hN := hH; (try simp only [hb, d0, d1, d2, d3, d4, d5, d6, d7, cond_true, cond_false] at hN)
                        -- d6
                        have B := hN.blk (k := 3) rfl; have fB := B.free 2; have zB := B.cell (j := 2) rfl; have lB := B.lt
                        go_simp
                        refine hK.out _ undef _ ?_ ?_; rotate_left 1
                        · (try simp only [r0, r1, r2, r3, r4, r5, r6, r7]); rfl
                        exact ⟨by have hX := hN.setB (k := 3) rfl 2 (.slice x_6 F2.length c_6); (try simp only [List.set_cons_zero, List.set_cons_succ] at hX); simpa only [updB, updV, blkOf_mk, tup0_mk, partsOf3, Nat.reduceBEq, cond_true, cond_false, hb, d0, d1, d2, d3, d4, d5, d6, d7, r0, r1, r2, r3, r4, r5, r6, r7] using hX, v0, v1, v2, v3, v4, v5, v6, v7⟩
                      exact AllSteps.nil
                  case hEe =>
                    intro b t we hJ hall
                    obtain ⟨hHe, v0, v1, v2, v3, v4, v5, v6, v7⟩ := hJ
                    have a0 : b 0 = true := hall 0 (by decide)
                    have a1 : b 1 = true := hall 1 (by decide)
                    have a2 : b 2 = true := hall 2 (by decide)
                    have a3 : b 3 = true := hall 3 (by decide)
                    have a4 : b 4 = true := hall 4 (by decide)
                    have a5 : b 5 = true := hall 5 (by decide)
                    have a6 : b 6 = true := hall 6 (by decide)
                    have a7 : b 7 = true := hall 7 (by decide)
                    have a8 : b 8 = true := hall 8 (by decide)
                    (try simp only [a0, a1, a2, a3, a4, a5, a6, a7, a8, cond_true] at hHe)
                    replace v0 := v0 a0
                    replace v1 := v1 a1
                    replace v2 := v2 a2
                    replace v3 := v3 a3
                    replace v4 := v4 a4
                    replace v5 := v5 a5
                    replace v6 := v6 a6
                    replace v7 := v7 a7
                    clear hall a0 a1 a2 a3 a4 a5 a6 a7 a8
                    generalize t 7 = x7 at hHe v7 ⊢
                    generalize t 6 = x6 at hHe v6 ⊢
                    generalize t 5 = x5 at hHe v5 ⊢
                    generalize t 4 = x4 at hHe v4 ⊢
                    generalize t 3 = x3 at hHe v3 ⊢
                    generalize t 2 = x2 at hHe v2 ⊢
                    generalize t 1 = x1 at hHe v1 ⊢
                    generalize t 0 = x0 at hHe v0 ⊢
                    subst v0
                    subst v1
                    subst v2
                    subst v3
                    subst v4
                    subst v5
                    obtain ⟨xe6, ce6, rfl⟩ := v6
                    subst v7
                    clear b
                    replace hH := hHe; clear hHe
                    replace hH : Held w1 we [aTs (.slice (some ⟨wa.heap.size, 0, none⟩) j j) cs ts, aI (.slice xc7 LC.length cc7) LC, aI (.slice xc16 DC.length cc16) DC, aB qc18 31 [.slice xc7 LC.length cc7, .slice xc16 DC.length cc16, .slice xe6 F2.length ce6], aI (.slice xe6 F2.length ce6) F2, aB (wr.heap.size) 31 [.slice e1 L.length f1, .slice e2 L.length f2, .slice (some ⟨bE, 0, none⟩) (flat ys).length cE]] := hH
                    replace hH : Held w1 we [aTs (.slice (some ⟨wa.heap.size, 0, none⟩) j j) cs ts, aI (.slice xc7 LC.length cc7) LC, aI (.slice xc16 DC.length cc16) DC, aB qc18 31 [.slice xc7 LC.length cc7, .slice xc16 DC.length cc16, .slice xe6 F2.length ce6], aI (.slice xe6 F2.length ce6) F2] := hH.sub (.cons_cons _ (.cons_cons _ (.cons_cons _ (.cons_cons _ (.cons_cons _ (.cons _ .slnil))))))
                    have q3_0 := (hH.blk (k := 3) rfl).cell (j := 0) rfl
                    have q3_1 := (hH.blk (k := 3) rfl).cell (j := 1) rfl
                    have q3_2 := (hH.blk (k := 3) rfl).cell (j := 2) rfl
                    have l3_ := (hH.blk (k := 3) rfl).lt
                    have c_kr_0 := hH.ext.cell kr_0
                    have c_kr_1 := hH.ext.cell kr_1
                    have c_kr_2 := hH.ext.cell kr_2
                    have c_kv_0 := hH.ext.cell kv_0
                    have c_kv_1 := hH.ext.cell kv_1
                    have c_kv_2 := hH.ext.cell kv_2
                    go_wp2_with fail
                    clear q3_0 q3_1 q3_2 l3_ c_kr_0 c_kr_1 c_kr_2 c_kv_0 c_kv_1 c_kv_2
                    go_roundw
                    case rel => exact ⟨q + 1, _, by omega, by go_num, by rw [stackRow_take HYS.out HYO.out, ← List.append_assoc, flat_snoc, HFD.out, HF3.out]; exact hH⟩
                    case measure => simp [RowKit.intOf]; omega
                · skip
                  have hqe : q = j := by omega
                  subst hqe
                  have hFD := HFD.out; rw [List.take_of_length_le (by rw [HM.out]; exact Nat.le_refl _), ← stackXs_step] at hFD
                  have c_kr_0 := hH.ext.cell kr_0
                  have c_kr_1 := hH.ext.cell kr_1
                  have c_kr_2 := hH.ext.cell kr_2
                  have c_kv_0 := hH.ext.cell kv_0
                  have c_kv_1 := hH.ext.cell kv_1
                  have c_kv_2 := hH.ext.cell kv_2
                  go_wp2_with fail
                  clear c_kr_0 c_kr_1 c_kr_2 c_kv_0 c_kv_1 c_kv_2
                  go_roundw
                  case rel => exact ⟨o + 1, _, by omega, by go_num, by rw [hFD]; exact hH⟩
                  case measure => simp [RowKit.intOf]; omega
            · skip
              have hoe : o = Z := by omega
              subst hoe
              obtain ⟨aD, cD, rfl, _, _⟩ := (hH.ints (k := 4) rfl).val
              have c_kr_0 := hH.ext.cell kr_0
              have c_kr_1 := hH.ext.cell kr_1
              have c_kr_2 := hH.ext.cell kr_2
              have c_kv_0 := hH.ext.cell kv_0
              have c_kv_1 := hH.ext.cell kv_1
              have c_kv_2 := hH.ext.cell kv_2
              go_wp2_with fail
              clear c_kr_0 c_kr_1 c_kr_2 c_kv_0 c_kv_1 c_kv_2
              refine (productOf_any _ (L.map dm) _ (by have h := hTD.ext (h1.trans hH.ext); exact h) HDL.out HDS.out).mono ?_; rintro e16 w16 ⟨rfl, rfl⟩; rw [HZ1.out]
              have Bf9 := hH.blk (k := 3) rfl; have Bz9 := Kz.ext hH.ext; have hT9 := hH.close3 (i := 1) (j := 2) (m := 4) rfl rfl rfl (by decide) (by decide) (by decide); have E9 := hH.ext
              have f0 := Bz9.free 0; have z0 := Bz9.cell (j := 0) rfl; have y0 := Bf9.cell (j := 0) rfl
              have f1 := Bz9.free 1; have z1 := Bz9.cell (j := 1) rfl; have y1 := Bf9.cell (j := 1) rfl
              have f2 := Bz9.free 2; have z2 := Bz9.cell (j := 2) rfl; have y2 := Bf9.cell (j := 2) rfl
              have lz9 := Bz9.lt; have lf9 := Bf9.lt; have HT9 := Lib.hid hT9; have hS1 := HS1.out; clear hT9 hH
              have hlt3 : w.heap.size + 1 < w1.heap.size := by omega
              go_upto_region 23 with fail
              repeat go_step
              refine bodyPost_ret (v := .tuple #[.agg #[.slice xc7 LC.length cc7, .slice xc16 DC.length cc16, .slice aD (flat (stackXs xss o)).length cD], .bool true]) (by simp [results, Try.results41, go_sem, *]) rfl ?_
              exact ⟨_, rfl, (((HT9.out.setBelow hlt3 _).setBelow hlt3 _).setBelow hlt3 _).mono (by omega), (((h1.trans E9).setAt (by omega) _ _).setAt (by omega) _ _).setAt (by omega) _ _⟩
end
end Go.Proofs.Ytabeciopggofkaa
