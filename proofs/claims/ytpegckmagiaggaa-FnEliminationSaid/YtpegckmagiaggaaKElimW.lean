/- bucketLabels, eliminateFrom of the program. -/
import Derived.Test.YtpegckmagiaggaaKG16
set_option linter.unusedSimpArgs false
set_option linter.unusedVariables false
namespace Go.Proofs.Ytpegckmagiaggaa
open Go.RowKit
def bucketG (ls : List (List Int)) (x : Int) (j : Nat) : List Int := bucketL (ls.take j) x
theorem bucketG_step {ls : List (List Int)} {x : Int} {j : Nat} {l : List Int} (h : ls[j]? = some l) : bucketG ls x (j + 1) = if hasL l x = true then joinL (bucketG ls x j) l else bucketG ls x j := by
  unfold bucketG bucketL
  rw [List.take_add_one, h, List.foldl_append]; rfl
theorem bucketG_all (ls : List (List Int)) (x : Int) : bucketG ls x ls.length = bucketL ls x := by unfold bucketG; rw [List.take_length]
theorem bucket_sub {U : List Int} {ls : List (List Int)} {x : Int} (h : ∀ l ∈ ls, ∀ y ∈ l, y ∈ U) : ∀ y ∈ bucketL ls x, y ∈ U := fun y hy => by
  obtain ⟨l, hl, _, hy⟩ := mem_bucket.1 hy
  exact h l hl y hy
structure ListsU (dm : Int → Int) (U : List Int) (ls : List (List Int)) : Prop where
  uni : Uni dm U
  nodup : ∀ l ∈ ls, l.Nodup
  sub : ∀ l ∈ ls, ∀ y ∈ l, y ∈ U
section
variable {dm : Int → Int} {U : List Int} {ls : List (List Int)}
theorem ListsU.len (h : ListsU dm U ls) {l : List Int} (hl : l ∈ ls) : l.length ≤ 12 := (h.uni.ax ⟨h.nodup l hl, h.sub l hl⟩).rank
theorem ListsU.take (h : ListsU dm U ls) (j : Nat) : ListsU dm U (ls.take j) := ⟨h.uni, fun l hl => h.nodup l (List.mem_of_mem_take hl), fun l hl => h.sub l (List.mem_of_mem_take hl)⟩
theorem ListsU.bucket (h : ListsU dm U ls) (x : Int) : (bucketL ls x).length ≤ 12 := (h.uni.ax ⟨bucket_nodup h.nodup x, bucket_sub h.sub⟩).rank
theorem ListsU.elim (h : ListsU dm U ls) (x : Int) : ListsU dm U (elimL ls x) := ⟨h.uni, elimL_nodup h.nodup x, fun l hl y hy => by
  unfold elimL at hl
  rcases List.mem_append.1 hl with hl | hl
  · exact h.sub l (List.mem_filter.1 hl).1 y hy
  · simp at hl; subst hl
    exact bucket_sub h.sub y (List.mem_filter.1 hy).1⟩
end
set_option maxHeartbeats 4000000 in
theorem bucketLabels_any {dm : Int → Int} {U : List Int} {ls : List (List Int)} (hU : ListsU dm U ls) (v : Value) (x : Int) (w : World) (hR : RowsS w v ls) :
 Calls Try.prog 154 #[v, .int .i64 x] w fun e w' => ∃ u, e = .returned u ∧ OwnI w' w.heap.size u (bucketL ls x) ∧ Ext w w' := by
 have HU := Lib.hid hU; clear hU
 obtain ⟨av, cv, rfl, hcv1, hcv2⟩ := hR.val
 obtain ⟨m, hm⟩ : ∃ q, ls.length = q := ⟨_, rfl⟩
 rw [hm] at hR hcv1 ⊢
 have HM := Lib.hid hm; clear hm
 have hH : Held w w [aI (.slice none 0 0) []] := (Held.new (Ext.refl w) 0).nilI
 go_enter Try.func154, Try.ntmps154
 go_wp2_with fail
 go_loopw [5, 10] (fun vl i wr => ∃ (j : Nat), j ≤ m ∧ i = .int .i64 (j : Int) ∧ Held w wr [aI vl (bucketG ls x j)]) (fun vl i wr => m - (RowKit.intOf i).toNat)
 case atStart => exact ⟨0, Nat.zero_le _, rfl, hH⟩
 case round =>
  clear hH
  obtain ⟨j, hj, rfl, hH⟩ := hrel
  obtain ⟨BJ, hBJ⟩ : ∃ q, bucketG ls x j = q := ⟨_, rfl⟩
  have hb12 : BJ.length ≤ 12 := by rw [← hBJ]; exact (HU.out.take j).bucket x
  rw [hBJ] at hH
  have HBJ := Lib.hid hBJ; clear hBJ
  by_cases hlt : j < m
  ·
   obtain ⟨bX, oX, u, l, rfl, hc0, hI, hx, _⟩ := hR.get (i := j) (by rw [HM.out]; exact hlt)
   have hl12 := HU.out.len (List.mem_of_getElem? hx)
   have HST := Lib.hid (bucketG_step (x := x) hx)
   obtain ⟨eu, cu, rfl, _, _⟩ := hI.val
   have hc1 := hH.ext.cell hc0
   have hI2 := hI.ext hH.ext
   clear hx
   go_wp2_with fail
   refine (hasInt_any _ l x _ hI2).mono ?_; rintro e1 w1 ⟨rfl, rfl⟩
   by_cases hh : hasL l x = true
   ·
    have hs := HST.out
    rw [if_pos hh, HBJ.out] at hs
    have HS := Lib.hid hs
    rw [hh]
    clear hs hh
    obtain ⟨vb, cb, rfl⟩ := (hH.own (k := 0) rfl).shapeN rfl
    go_wp2_with fail
    refine (joinLabels_any _ _ BJ l _ (hH.ints (k := 0) rfl) hI2 (by omega) (by omega)).mono ?_; rintro e2 w2 ⟨v2, rfl, o2, h2⟩
    go_wp2_with fail
    go_roundw
    case rel => exact ⟨j + 1, by omega, by go_num, by rw [HS.out]; exact (((hH.drop 0).addI 0 h2 o2 (Nat.le_refl _)))⟩
    case measure => simp [RowKit.intOf]; omega
   ·
    have hs := HST.out
    rw [if_neg hh, HBJ.out] at hs
    have HS := Lib.hid hs
    rw [eq_false_of_ne_true hh]
    clear hs hh
    go_wp2_with fail
    go_roundw
    case rel => exact ⟨j + 1, by omega, by go_num, by rw [HS.out]; exact hH⟩
    case measure => simp [RowKit.intOf]; omega
  ·
   have hje : j = m := by omega
   have HB : Hid (bucketL ls x = BJ) := Lib.hid (by rw [← HBJ.out, hje, ← HM.out, bucketG_all])
   have HO := Lib.hid (hH.own (k := 0) rfl); have HE := Lib.hid hH.ext
   clear hH hje
   go_wp2
   go_ret
   exact ⟨_, rfl, by rw [HB.out]; exact HO.out, HE.out⟩
def leftG (ls : List (List Int)) (x : Int) (j : Nat) : List (List Int) := (ls.take j).filter fun l => !hasL l x
theorem leftG_yes {ls : List (List Int)} {x : Int} {j : Nat} {l : List Int} (h : ls[j]? = some l) (hh : hasL l x = false) : leftG ls x (j + 1) = leftG ls x j ++ [l] := by
  unfold leftG
  rw [List.take_add_one, h, List.filter_append]
  simp [hh]
theorem leftG_no {ls : List (List Int)} {x : Int} {j : Nat} {l : List Int} (h : ls[j]? = some l) (hh : hasL l x = true) : leftG ls x (j + 1) = leftG ls x j := by
  unfold leftG
  rw [List.take_add_one, h, List.filter_append]
  simp [hh]
theorem leftG_len (ls : List (List Int)) (x : Int) (j : Nat) : (leftG ls x j).length ≤ j := by
  unfold leftG
  exact Nat.le_trans (List.length_filter_le _ _) (by rw [List.length_take]; omega)
theorem OwnLs.at {w : World} {a : Option Addr} {n cap : Nat} {vs : List Value} {ls : List (List Int)} (h : OwnLs w (.slice a n cap) vs ls) {i : Nat} (hi : i < ls.length) :
    ∃ b off u l, a = some ⟨b, off, none⟩ ∧ w.cell? ⟨b, off + i, none⟩ = some u ∧ OwnI w 0 u l ∧ ls[i]? = some l ∧ u ∈ vs := by
  obtain ⟨a', cap', hv, _, _, h3⟩ := (ownsRow_row h.row).val
  cases hv
  have hr := h.row.1
  obtain ⟨b, off, ha, hc⟩ := h3 (by have := h.len; omega)
  have hi' : i < vs.length := by rw [h.len]; exact hi
  exact ⟨b, off, vs[i], ls[i], ha, hc i _ (List.getElem?_eq_getElem hi'), h.elem i _ _ (List.getElem?_eq_getElem hi') (List.getElem?_eq_getElem hi), List.getElem?_eq_getElem hi, List.getElem_mem hi'⟩
structure RowV (w : World) (VS vs : List Value) (ll : List (List Int)) : Prop where
  len : vs.length = ll.length
  elem : ∀ (i : Nat) (u : Value) (l : List Int), vs[i]? = some u → ll[i]? = some l → OwnI w 0 u l
  mem : ∀ u ∈ vs, u ∈ VS
theorem RowV.nil (w : World) (VS : List Value) : RowV w VS [] [] := ⟨rfl, fun i u l h => by simp at h, fun u h => by cases h⟩
theorem own_snoc {w : World} {vs : List Value} {ll : List (List Int)} {u : Value} {l : List Int} (hl : vs.length = ll.length) (h : ∀ (i : Nat) (u : Value) (l : List Int), vs[i]? = some u → ll[i]? = some l → OwnI w 0 u l) (hu : OwnI w 0 u l) : ∀ (i : Nat) (x : Value) (m : List Int), (vs ++ [u])[i]? = some x → (ll ++ [l])[i]? = some m → OwnI w 0 x m := by
  intro i x m hx hm
  rcases Nat.lt_or_ge i ll.length with hi | hi
  · rw [List.getElem?_append_left (by omega)] at hx
    rw [List.getElem?_append_left hi] at hm
    exact h i x m hx hm
  · rw [List.getElem?_append_right (by omega)] at hx
    rw [List.getElem?_append_right hi] at hm
    have e0 : i - ll.length = 0 := by have := (List.getElem?_eq_some_iff.1 hm).1; simp at this; omega
    rw [e0] at hm
    rw [show i - vs.length = 0 by omega] at hx
    simp at hx hm
    subst hx hm
    exact hu
theorem RowV.snoc {w : World} {VS vs : List Value} {ll : List (List Int)} {u : Value} {l : List Int} (h : RowV w VS vs ll) (hu : OwnI w 0 u l) (hm : u ∈ VS) : RowV w VS (vs ++ [u]) (ll ++ [l]) :=
  ⟨by simp [h.len], own_snoc h.len h.elem hu, fun x hx => by rcases List.mem_append.1 hx with hx | hx; exact h.mem x hx; simp at hx; subst hx; exact hm⟩
theorem RowV.ext {w w' : World} {VS vs : List Value} {ll : List (List Int)} (h : RowV w VS vs ll) (e : Ext w w') : RowV w' VS vs ll := ⟨h.len, fun i u l hu hl => (h.elem i u l hu hl).ext e, h.mem⟩
set_option maxHeartbeats 4000000 in
theorem eliminateFrom_any {dm : Int → Int} {U : List Int} {ls : List (List Int)} (hU : ListsU dm U ls) (hll : ls.length ≤ 1000) (v : Value) (VS : List Value) (x : Int) (w : World) (hW : OwnLs w v VS ls) :
 Calls Try.prog 155 #[v, .int .i64 x] w fun e w' => ∃ u us, e = .returned u ∧ OwnLs w' u us (elimL ls x) ∧ Ext w w' ∧ ∀ b ∈ u.ownBlock.toList ++ fpL us, b ∈ fpL VS ∨ w.heap.size ≤ b := by
 have HU := Lib.hid hU; clear hU
 have hR := hW.rowsS
 have hR0 := hR
 obtain ⟨av, cv, rfl, hcv1, hcv2⟩ := hR.val
 obtain ⟨m, hm⟩ : ∃ q, ls.length = q := ⟨_, rfl⟩
 rw [hm] at hR hR0 hll hcv1 ⊢
 have HM := Lib.hid hm; clear hm
 have hH : Held w w [aR 27 1 (.slice none 0 0) 0 []] := (Held.new (Ext.refl w) 0).nilR 27 1
 go_enter Try.func155, Try.ntmps155
 go_wp2_with fail
 go_loopw [5, 10] (fun vl i wr => ∃ (j n : Nat) (vs : List Value), j ≤ m ∧ i = .int .i64 (j : Int) ∧ Hid ((leftG ls x j).length = n) ∧ RowV w VS vs (leftG ls x j) ∧ Held w wr [aR 27 1 vl n vs]) (fun vl i wr => m - (RowKit.intOf i).toNat)
 case atStart => exact ⟨0, 0, [], Nat.zero_le _, rfl, Lib.hid rfl, RowV.nil w VS, hH⟩
 case round =>
  clear hH
  obtain ⟨j, n, vs, hj, rfl, HN, hL, hH⟩ := hrel
  have hnj : n ≤ j := by rw [← HN.out]; exact leftG_len ls x j
  by_cases hlt : j < m
  ·
   obtain ⟨bX, oX, u, l, rfl, hc0, hO0, hx, hmV⟩ := hW.at (i := j) (by rw [HM.out]; exact hlt)
   have hI := hO0.ints
   obtain ⟨eu, cu, rfl, _, _⟩ := hI.val
   have hc1 := hH.ext.cell hc0
   have hI2 := hI.ext hH.ext
   have HX := Lib.hid hx
   clear hx
   go_wp2_with fail
   refine (hasInt_any _ l x _ hI2).mono ?_; rintro e1 w1 ⟨rfl, rfl⟩
   by_cases hh : hasL l x = true
   ·
    have HS := Lib.hid (leftG_no HX.out hh)
    rw [hh]
    clear hh
    go_wp2_with fail
    go_roundw
    case rel => exact ⟨j + 1, n, vs, by omega, by go_num, by rw [HS.out]; exact HN, by rw [HS.out]; exact hL, hH⟩
    case measure => simp [RowKit.intOf]; omega
   ·
    have HS := Lib.hid (leftG_yes HX.out (eq_false_of_ne_true hh))
    rw [eq_false_of_ne_true hh]
    clear hh
    have hL2 := hL.snoc hO0 hmV
    go_wp2_with (at_builtin; refine wpList_app _ rfl _ _ 33 rfl _ _ rfl rfl _ (run_pushR1 _ (hH.grow ((Ext.refl _).alloc _)) (k := 0) rfl (row_one1 _ _ _) rfl (by omega)) ?_; rintro vp wp ⟨hHp, gp, rp⟩)
    go_roundw
    case rel => exact ⟨j + 1, n + 1, _, by omega, by go_num, Lib.hid (by rw [HS.out, List.length_append, HN.out]; rfl), by rw [HS.out]; exact hL2, hHp⟩
    case measure => simp [RowKit.intOf]; omega
  ·
   have hje : j = m := by omega
   have HLE : Hid (leftG ls x j = ls.filter fun l => !hasL l x) := Lib.hid (by unfold leftG; rw [hje, ← HM.out, List.take_length])
   obtain ⟨LJ, hLJ⟩ : ∃ q, leftG ls x j = q := ⟨_, rfl⟩
   rw [hLJ] at HLE HN hL
   clear hje hLJ
   obtain ⟨an, cn, hvl, _, _⟩ := (ownsRow_row (hH.get (k := 0) rfl)).val
   subst hvl
   have hn2 : n ≤ 1000 := by omega
   go_wp2_with fail
   refine (bucketLabels_any HU.out _ x _ (hR0.ext hH.ext)).mono ?_; rintro e3 w3 ⟨v3, rfl, o3, h3⟩
   replace hH := hH.grow h3
   have hsz3 : w.heap.size ≤ w3.heap.size := hH.ext.size
   obtain ⟨BL, hBL⟩ : ∃ q, bucketL ls x = q := ⟨_, rfl⟩
   have hb12 : BL.length ≤ 12 := by rw [← hBL]; exact HU.out.bucket x
   rw [hBL] at o3
   have HBL := Lib.hid hBL; clear hBL
   obtain ⟨eb, cb, rfl⟩ := o3.shapeN rfl
   go_wp2_with fail
   refine (withoutInt_any _ BL x _ o3.ints (by omega)).mono ?_; rintro e4 w4 ⟨v4, rfl, o4, h4⟩
   replace hH := (hH.mores 1).addI 1 h4 o4 (Nat.le_refl _)
   replace hH : Held w w4 [aR 27 1 (.slice an n cn) n vs, aI v4 (cutL BL x)] := hH
   obtain ⟨CL, hCL⟩ : ∃ q, cutL BL x = q := ⟨_, rfl⟩
   rw [hCL] at o4 hH
   have HCL := Lib.hid hCL; clear hCL
   obtain ⟨ec, cc, rfl⟩ := o4.shapeN rfl
   have hi4 := o4.ints
   have hf4 : ∀ b, (Value.slice ec CL.length cc).ownBlock = some b → w.heap.size ≤ b := fun b hb => Nat.le_trans hsz3 (o4.block_lt hb).1
   have HE : Hid (elimL ls x = LJ ++ [CL]) := Lib.hid (by unfold elimL; rw [HLE.out, HBL.out, HCL.out])
   clear h3 h4 o3 o4
   go_wp2_with (at_builtin; refine wpList_app _ rfl _ _ 33 rfl _ _ rfl rfl _ (run_pushR1 _ (hH.grow ((Ext.refl _).alloc _)) (n := n) (k := 0) rfl (row_one1 _ _ _) rfl (by omega)) ?_; rintro vp wp ⟨hHp, gp, rp⟩)
   have HR := Lib.hid (show OwnLs wp vp (vs ++ [.slice ec CL.length cc]) (elimL ls x) by
    rw [HE.out]
    refine ⟨by simp [hL.len], ?_, own_snoc hL.len (hL.ext hHp.ext).elem (hHp.own (k := 1) rfl).zero⟩
    rw [List.length_append, HN.out]
    exact hHp.get (k := 0) rfl)
   have HF : Hid (∀ b ∈ vp.ownBlock.toList ++ fpL (vs ++ [.slice ec CL.length cc]), b ∈ fpL VS ∨ w.heap.size ≤ b) := Lib.hid fun b hb => by
    rcases List.mem_append.1 hb with hb | hb
    · exact .inr ((hHp.fpr (k := 0) rfl b hb).1)
    · obtain ⟨u, hu, hb⟩ := mem_fpL.1 hb
      rcases List.mem_append.1 hu with hu | hu
      · exact .inl (mem_fpL.2 ⟨u, hL.mem u hu, hb⟩)
      · simp at hu; subst hu; exact .inr (hf4 b hb)
   have HX := Lib.hid hHp.ext
   clear hHp gp rp hH
   go_ret
   exact ⟨_, _, rfl, HR.out, HX.out, HF.out⟩
end Go.Proofs.Ytpegckmagiaggaa
