/- The law 'FnDefinition', walked. -/
import Derived.Test.YtpegckmagiaggaaDBase
import Derived.Test.YtpegckmagiaggaaDNetQ
import Derived.Test.YtpegckmagiaggaaDG15
import Derived.Test.YtpegckmagiaggaaDG10
import Derived.Test.YtpegckmagiaggaaDSumLW
import Derived.Test.YtpegckmagiaggaaDG3
import Derived.Test.YtpegckmagiaggaaDDrawE
namespace Go.Proofs.Ytpegckmagiaggaa
open Go.RowKit
set_option linter.unusedSimpArgs false
set_option linter.unusedVariables false
section
variable {k p n : Int} (hr : ringOk k p n = true)
variable {dm : Int → Int} {U : List Int} {ts : List (NT k p n)} {op : List Int}
theorem total_data (h : IsN k p n dm U ts op) : flat (sumXs hr dm op [] (netXs hr dm ts op)) = (sumN (rig hr) (size (axs dm (ascL (occ ts)))) fun o => netF hr dm ts (asg (axs dm (ascL (occ ts))) o σ0)).1 := by
  have e1 : keepL op [] = [] := by
    unfold keepL
    exact List.filter_eq_nil_iff.2 fun x _ => by simp [hasL]
  have e2 : goneL op [] = op := by
    unfold goneL
    exact List.filter_eq_self.2 fun x _ => by simp [hasL]
  have e3 : sumXs hr dm op [] (netXs hr dm ts op) = [sumA (rig hr) (axs dm op) (valT hr dm op (netXs hr dm ts op)) σ0] := by
    unfold sumXs contrF
    rw [e1, e2]; rfl
  rw [e3, ← sumA_range, ← net_total hr h]
  have e4 : sumA (rig hr) (axs dm op) (valT hr dm op (netXs hr dm ts op)) σ0 = sumA (rig hr) (axs dm op) (netG hr dm ts op) σ0 := by
    refine sumA_congr (rig hr) fun τ hτ hf => ?_
    exact netG_val hr h (hf (by rw [labs_axs]; exact h.sub.nodup))
  rw [e4]
  simp [flat]
end
theorem ints_sameN (v u : Value) (l m : List Int) (w : World) (hl : IntS w v l) (hm : IntS w u m) (e : l = m) : Calls Try.prog 32 #[v, u] w fun e w' => e = .returned (.bool true) ∧ Ext w w' :=
  (ints_same v u l m w hl hm e).mono fun _ _ ⟨he, hn⟩ => ⟨he, hn ▸ Ext.refl w⟩
set_option maxRecDepth 100000 in
set_option maxHeartbeats 8000000 in
theorem walkFnDefinition (v : Value) (l : List Int) (w : World) (hl : ByteS w v l) (hall : ∀ x ∈ l, 0 ≤ x ∧ x ≤ 255) :
    Calls Try.prog 5 #[v] w fun e w' => e = .returned (.bool true) ∧ Ext w w' := by
  obtain ⟨ca, cap, rfl, hc1, hc2⟩ := hl.val
  by_cases big : 1048576 < l.length
  · go_enter Try.func5, Try.ntmps5
    go_wp2
    go_ret
    exact ⟨rfl, (by repeat' (first | (with_reducible exact Ext.refl _) | (with_reducible assumption) | (with_reducible apply Ext.alloc) | (with_reducible apply Ext.drew) | (with_reducible apply Ext.drewN) | (refine Ext.setAt ?_ (by omega) _ _) | (refine Ext.trans ?_ (by assumption))))⟩
  have hC : Code w (.slice ca l.length cap) l := ⟨hl, hall, by omega⟩
  clear hall hl
  have hH : Held w w [] := Held.new (Ext.refl w) 0
  go_enter Try.func5, Try.ntmps5
  go_wp2_with fail
  refine (makeRing_any _ l 0 _ (hC.ext hH.ext) (by omega)).mono ?_; rintro ewn1 wn1 ⟨k, p, n, rfl, hd, hwn1⟩
  have HR := Lib.hid (drawn_ok hd); clear hd
  replace hH : Held w wn1 [] := hH.grow hwn1
  clear hwn1
  go_wp2_with fail
  have hB : Held w (wn1.alloc (.cells #[.int .i64 k, .int .i64 p, .int .i64 n] 24)) [aB (wn1.heap.size) 24 [.int .i64 k, .int .i64 p, .int .i64 n]] := by
    have h := (hH.mores 1).addB 0 #[.int .i64 k, .int .i64 p, .int .i64 n] 24
    exact h
  have hsz : (wn1.alloc (.cells #[.int .i64 k, .int .i64 p, .int .i64 n] 24)).heap.size = wn1.heap.size + 1 := by simp
  generalize wn1.alloc (.cells #[.int .i64 k, .int .i64 p, .int .i64 n] 24) = wn2 at hB hsz ⊢
  replace hH := hB; have HSZwn2 := Lib.hid hsz; clear hB hsz
  have q0_0 := (hH.blk (k := 0) rfl).cell (j := 0) rfl
  have q0_1 := (hH.blk (k := 0) rfl).cell (j := 1) rfl
  have q0_2 := (hH.blk (k := 0) rfl).cell (j := 2) rfl
  have l0_ := (hH.blk (k := 0) rfl).lt
  go_wp2_with fail
  clear q0_0 q0_1 q0_2 l0_
  refine (makeNetwork_any _ l 10 k p n 4 HR.out (by omega) (by omega) _ (hC.ext hH.ext) (by omega)).mono ?_; rintro ewN wN ⟨tv, ov, cs, ts, op, rfl, hJ, hN, hmost⟩
  have E0 : Ext w wN := hH.ext.trans hJ.ext
  have hT : TensS wN tv (ts.map (tenOf dimOf)) := hJ.tensS (k := 0) rfl
  have hO : IntS wN ov op := hJ.ints (k := 1) rfl
  have kr_0 := ((hH.grow hJ.ext).blk (k := 0) rfl).cell (j := 0) rfl
  have kr_1 := ((hH.grow hJ.ext).blk (k := 0) rfl).cell (j := 1) rfl
  have kr_2 := ((hH.grow hJ.ext).blk (k := 0) rfl).cell (j := 2) rfl
  have kr_l := ((hH.grow hJ.ext).blk (k := 0) rfl).lt
  have hCN := hC.ext E0
  obtain ⟨m, hm⟩ : ∃ m, ts.length = m := ⟨_, rfl⟩
  obtain ⟨aV, cV, rfl, hcT1, hcT2⟩ := hT.val
  obtain ⟨aO, cO, rfl, hcO1, hcO2⟩ := hO.val
  have hT0 : TensS wN (.slice aV m cV) (ts.map (tenOf dimOf)) := by rw [List.length_map, hm] at hT; exact hT
  rw [List.length_map, hm] at hT hcT1
  rw [List.length_map, hm]
  have hm12 : m ≤ 4 := by rw [← hm]; omega
  have hop12 : op.length ≤ 12 := hN.rank
  have HM := Lib.hid hm; have HN := Lib.hid hN; have HD3 := Lib.hid hN.dims3; clear hm hN hmost hJ hC
  have hTl : Hid ((ts.map (tenOf dimOf)).length = m) := Lib.hid (by rw [List.length_map]; exact HM.out)
  clear hH
  have hC := hCN; clear hCN
  have hH : Held wN wN [] := Held.new (Ext.refl _) 0
  have c_kr_0 := hH.ext.cell kr_0
  have c_kr_1 := hH.ext.cell kr_1
  have c_kr_2 := hH.ext.cell kr_2
  have c_kr_l := Nat.lt_of_lt_of_le kr_l hH.ext.size
  go_wp2_with fail
  clear c_kr_0 c_kr_1 c_kr_2 c_kr_l
  have hB : Held wN (wN.alloc (.cells #[.int .i64 k, .int .i64 p, .int .i64 n, .slice aV m cV, .slice aO op.length cO] 29)) [aB (wN.heap.size) 29 [.int .i64 k, .int .i64 p, .int .i64 n, .slice aV m cV, .slice aO op.length cO]] := by
    have h := (hH.mores 1).addB 0 #[.int .i64 k, .int .i64 p, .int .i64 n, .slice aV m cV, .slice aO op.length cO] 29
    exact h
  have hsz : (wN.alloc (.cells #[.int .i64 k, .int .i64 p, .int .i64 n, .slice aV m cV, .slice aO op.length cO] 29)).heap.size = wN.heap.size + 1 := by simp
  generalize wN.alloc (.cells #[.int .i64 k, .int .i64 p, .int .i64 n, .slice aV m cV, .slice aO op.length cO] 29) = wn3 at hB hsz ⊢
  replace hH := hB; have HSZwn3 := Lib.hid hsz; clear hB hsz
  obtain ⟨AL, hAL⟩ : ∃ q, ascL (occ ts) = q := ⟨_, rfl⟩
  have SA : Hid (Sub U6 AL) := Lib.hid (hAL ▸ HN.out.ascSub)
  have UU := Lib.hid HN.out.uni
  have hal12 : AL.length ≤ 12 := (UU.out.ax SA.out).rank
  have HAX := Lib.hid (UU.out.ax SA.out)
  have HAM : Hid (∀ x ∈ AL, (0 ≤ x ∧ x ≤ 99) ∧ x ∈ occ ts) := Lib.hid fun x hx => by rw [← hAL] at hx; exact mem_ascL.1 hx
  obtain ⟨NA, hNA⟩ : ∃ q, size (axs dimOf AL) = q := ⟨_, rfl⟩
  have hna1 : 1 ≤ NA := by rw [← hNA]; exact (UU.out.small SA.out).2
  have hna2 : NA ≤ 4096 := by rw [← hNA]; exact (UU.out.small SA.out).1
  have HTS : Hid (tsize AL (AL.map dimOf) = (NA : Int)) := Lib.hid (by rw [HAX.out.tsize, ← hNA]; exact (UU.out.size SA.out).symm)
  have HPN : Hid (prodL (AL.map dimOf) = (NA : Int)) := Lib.hid (by rw [← hNA]; exact (UU.out.size SA.out).symm)
  obtain ⟨F, hF⟩ : ∃ F : Nat → El k p n, (fun o => netF HR.out dimOf ts (asg (axs dimOf AL) o σ0)) = F := ⟨_, rfl⟩
  have hFo : ∀ o, netF HR.out dimOf ts (asg (axs dimOf AL) o σ0) = F o := fun o => congrFun hF o
  obtain ⟨S, hS⟩ : ∃ S : Nat → El k p n, (fun o => sumN (rig HR.out) o F) = S := ⟨_, rfl⟩
  have hSo : ∀ o, sumN (rig HR.out) o F = S o := fun o => congrFun hS o
  have HS0 : Hid ((S 0).1 = zeroL k p n) := Lib.hid (by rw [← hSo]; rfl)
  have HSS : Hid (∀ o, (S (o + 1)).1 = addL k p (S o).1 (F o).1) := Lib.hid fun o => by rw [← hSo, ← hSo]; rfl
  have HTD : Hid (flat (sumXs HR.out dimOf op [] (netXs HR.out dimOf ts op)) = (S NA).1) := Lib.hid (by rw [total_data HR.out HN.out, hAL, hNA, ← hSo, ← hF])
  have HIX : Hid (∀ o, o < NA → idxL (AL.map dimOf) (o : Int) = AL.map (asg (axs dimOf AL) o σ0)) := Lib.hid fun o ho => idxL_asg SA.out.nodup (fun l hl => (UU.out.dim (SA.out.sub l hl)).1) o σ0
  have HIO : Hid (∀ o, idxOk (AL.map dimOf) (AL.map (asg (axs dimOf AL) o σ0)) = true) := Lib.hid fun o => idxOk_map fun l hl => asg_fits' UU.out SA.out o σ0 (l, dimOf l) (List.mem_map_of_mem hl)
  have HFO := Lib.hid hFo; have HAL := Lib.hid hAL
  have H1 : Hid (ringOk 1 0 0 = true) := Lib.hid (by decide)
  have HTX := Lib.hid (netXs_isT HR.out HN.out)
  obtain ⟨RX, hRX⟩ : ∃ q, netXs HR.out dimOf ts op = q := ⟨_, rfl⟩
  rw [hRX] at HTX HTD
  have HRX := Lib.hid hRX
  have HUS : Hid (∀ x ∈ AL, 1 ≤ (usesL ts x ts.length).length) := Lib.hid fun x hx => usesL_pos (HAM.out x hx).2
  clear hAL hNA hF hFo hS hSo hRX
  refine (labelsOf_any HR.out HN.out _ _ _ (hT.ext hH.ext) (hO.ext hH.ext)).mono ?_; rintro ewn4 wn4 ⟨u, rfl, hJ⟩
  rw [HAL.out] at hJ
  obtain ⟨al, cl, rfl⟩ := (hJ.own (k := 0) rfl).shape1 AL.length rfl
  replace hH : Held wN wn4 [aB (wN.heap.size) 29 [.int .i64 k, .int .i64 p, .int .i64 n, .slice aV m cV, .slice aO op.length cO], aI (.slice al AL.length cl) AL] := hH.join hJ (fun q hq => by cases hq)
  clear hJ
  have q0_0 := (hH.blk (k := 0) rfl).cell (j := 0) rfl
  have q0_1 := (hH.blk (k := 0) rfl).cell (j := 1) rfl
  have q0_2 := (hH.blk (k := 0) rfl).cell (j := 2) rfl
  have q0_3 := (hH.blk (k := 0) rfl).cell (j := 3) rfl
  have q0_4 := (hH.blk (k := 0) rfl).cell (j := 4) rfl
  have l0_ := (hH.blk (k := 0) rfl).lt
  have c_kr_0 := hH.ext.cell kr_0
  have c_kr_1 := hH.ext.cell kr_1
  have c_kr_2 := hH.ext.cell kr_2
  have c_kr_l := Nat.lt_of_lt_of_le kr_l hH.ext.size
  go_wp2_with fail
  clear q0_0 q0_1 q0_2 q0_3 q0_4 l0_ c_kr_0 c_kr_1 c_kr_2 c_kr_l
  have hB : Held wN (wn4.alloc (.cells #[] 3)) [aB (wN.heap.size) 29 [.int .i64 k, .int .i64 p, .int .i64 n, .slice aV m cV, .slice aO op.length cO], aI (.slice al AL.length cl) AL, aI (.slice (some ⟨wn4.heap.size, 0, none⟩) 0 0) []] := by
    have h := (hH.mores 1).built 2 [] 0 rfl (by simp [maxLen]) #[] rfl
    exact h
  have hsz : (wn4.alloc (.cells #[] 3)).heap.size = wn4.heap.size + 1 := by simp
  generalize wn4.alloc (.cells #[] 3) = wn5 at hB hsz ⊢
  replace hH := hB; have HSZwn5 := Lib.hid hsz; clear hB hsz
  go_loopw [6, 30] (fun vd i wr => ∃ j : Nat, j ≤ AL.length ∧ i = .int .i64 (j : Int) ∧ Held wN wr [aB (wN.heap.size) 29 [.int .i64 k, .int .i64 p, .int .i64 n, .slice aV m cV, .slice aO op.length cO], aI (.slice al AL.length cl) AL, aI vd ((AL.take j).map dimOf)]) (fun vd i wr => AL.length - (RowKit.intOf i).toNat)
  case atStart => exact ⟨0, Nat.zero_le _, rfl, hH⟩
  case round =>
    clear hH
    rename_i vd
    obtain ⟨j, hj, rfl, hH⟩ := hrel
    obtain ⟨DL, hDL⟩ : ∃ q, (AL.take j).map dimOf = q := ⟨_, rfl⟩
    rw [hDL] at hH
    have hdl : DL.length = j := by rw [← hDL, List.length_map, List.length_take]; omega
    have HDL := Lib.hid hDL; have HDLL := Lib.hid hdl; clear hDL hdl
    obtain ⟨ad, cd, rfl⟩ := (hH.own (k := 2) rfl).shape1 j HDLL.out
    obtain ⟨wq, rfl⟩ : ∃ q, q = wr := ⟨wr, rfl⟩
    by_cases hlt : j < AL.length
    · skip
      obtain ⟨bA, oA, x, rfl, hcx, hx, _⟩ := (hH.ints (k := 1) rfl).get hlt
      obtain ⟨⟨hx0, hx1⟩, hxo⟩ := HAM.out x (List.mem_of_getElem? hx)
      obtain ⟨c, rfl⟩ : ∃ c : Nat, x = (c : Int) := ⟨x.toNat, by omega⟩
      have hc : c < 100 := by omega
      have HDS := Lib.hid (show (AL.take (j + 1)).map dimOf = DL ++ [dimOf c] by rw [take_snoc' hx, List.map_append, HDL.out]; rfl)
      have HXO := Lib.hid ((hasL_iff _ _).2 hxo)
      have hu1 := HUS.out c (List.mem_of_getElem? hx)
      have HU1 := Lib.hid hu1
      clear hx hxo hu1
      have q0_0 := (hH.blk (k := 0) rfl).cell (j := 0) rfl
      have q0_1 := (hH.blk (k := 0) rfl).cell (j := 1) rfl
      have q0_2 := (hH.blk (k := 0) rfl).cell (j := 2) rfl
      have q0_3 := (hH.blk (k := 0) rfl).cell (j := 3) rfl
      have q0_4 := (hH.blk (k := 0) rfl).cell (j := 4) rfl
      have l0_ := (hH.blk (k := 0) rfl).lt
      have c_kr_0 := hH.ext.cell kr_0
      have c_kr_1 := hH.ext.cell kr_1
      have c_kr_2 := hH.ext.cell kr_2
      have c_kr_l := Nat.lt_of_lt_of_le kr_l hH.ext.size
      go_wp2_with fail
      clear q0_0 q0_1 q0_2 q0_3 q0_4 l0_ c_kr_0 c_kr_1 c_kr_2 c_kr_l
      refine (dimOf_any HR.out HN.out _ _ _ (hT.ext hH.ext) (hO.ext hH.ext) c hc).mono ?_; rintro ewn6 wn6 ⟨rfl, hwn6⟩
      rw [if_pos HXO.out]
      replace hH : Held wN wn6 [aB (wN.heap.size) 29 [.int .i64 k, .int .i64 p, .int .i64 n, .slice aV m cV, .slice aO op.length cO], aI (.slice (some ⟨bA, oA, none⟩) AL.length cl) AL, aI (.slice ad j cd) DL] := hH.grow hwn6
      clear hwn6
      clear hcx
      have q0_0 := (hH.blk (k := 0) rfl).cell (j := 0) rfl
      have q0_1 := (hH.blk (k := 0) rfl).cell (j := 1) rfl
      have q0_2 := (hH.blk (k := 0) rfl).cell (j := 2) rfl
      have q0_3 := (hH.blk (k := 0) rfl).cell (j := 3) rfl
      have q0_4 := (hH.blk (k := 0) rfl).cell (j := 4) rfl
      have l0_ := (hH.blk (k := 0) rfl).lt
      have c_kr_0 := hH.ext.cell kr_0
      have c_kr_1 := hH.ext.cell kr_1
      have c_kr_2 := hH.ext.cell kr_2
      have c_kr_l := Nat.lt_of_lt_of_le kr_l hH.ext.size
      go_wp2_with (at_builtin; refine wpList_app _ rfl _ _ 27 rfl _ _ rfl rfl _ (run_push _ _ wN.heap.size _ DL (dimOf c) (hH.own (k := 2) rfl) (by rw [HDLL.out]; omega) hH.size) ?_; rintro v6 w6 ⟨o6, g6, n6⟩; have hHp := hH.pushed (k := 2) rfl o6 g6 n6; have yB := hHp.blk (k := 0) rfl; have y0 := yB.cell (j := 0) rfl; have y1 := yB.cell (j := 1) rfl; have y2 := yB.cell (j := 2) rfl; have y3 := yB.cell (j := 3) rfl; have y4 := yB.cell (j := 4) rfl; have yl := yB.lt; clear yB)
      replace hH : Held wN w6 [aB (wN.heap.size) 29 [.int .i64 k, .int .i64 p, .int .i64 n, .slice aV m cV, .slice aO op.length cO], aI (.slice (some ⟨bA, oA, none⟩) AL.length cl) AL, aI v6 (DL ++ [dimOf c])] := hHp
      clear hHp y0 y1 y2 y3 y4 yl
      refine (usesOf_any HR.out HN.out _ _ _ (hT.ext hH.ext) (hO.ext hH.ext) (c : Int)).mono ?_; rintro ewn7 wn7 ⟨vu, rfl, ou, hwn7⟩
      have hu1 := HU1.out
      obtain ⟨UL, hUL⟩ : ∃ q, usesL ts (c : Int) ts.length = q := ⟨_, rfl⟩
      rw [hUL] at hu1 ou
      clear hUL
      obtain ⟨au, cu, rfl⟩ := ou.shape1 UL.length rfl
      have hu2 : ¬ (UL.length : Int) < 1 := by omega
      replace hH : Held wN wn7 [aB (wN.heap.size) 29 [.int .i64 k, .int .i64 p, .int .i64 n, .slice aV m cV, .slice aO op.length cO], aI (.slice (some ⟨bA, oA, none⟩) AL.length cl) AL, aI v6 (DL ++ [dimOf c])] := hH.grow hwn7
      clear hwn7
      have q0_0 := (hH.blk (k := 0) rfl).cell (j := 0) rfl
      have q0_1 := (hH.blk (k := 0) rfl).cell (j := 1) rfl
      have q0_2 := (hH.blk (k := 0) rfl).cell (j := 2) rfl
      have q0_3 := (hH.blk (k := 0) rfl).cell (j := 3) rfl
      have q0_4 := (hH.blk (k := 0) rfl).cell (j := 4) rfl
      have l0_ := (hH.blk (k := 0) rfl).lt
      have c_kr_0 := hH.ext.cell kr_0
      have c_kr_1 := hH.ext.cell kr_1
      have c_kr_2 := hH.ext.cell kr_2
      have c_kr_l := Nat.lt_of_lt_of_le kr_l hH.ext.size
      go_wp2_with fail
      clear q0_0 q0_1 q0_2 q0_3 q0_4 l0_ c_kr_0 c_kr_1 c_kr_2 c_kr_l
      go_roundw
      case rel => exact ⟨j + 1, by omega, by go_num, by rw [HDS.out]; exact hH⟩
      case measure => simp [RowKit.intOf]; omega
    · skip
      have hje : j = AL.length := by omega
      subst hje
      have hde := HDL.out; rw [List.take_length] at hde
      rw [← hde] at hH
      clear hde
      obtain ⟨wb, rfl⟩ : ∃ q, q = wq := ⟨wq, rfl⟩
      have q0_0 := (hH.blk (k := 0) rfl).cell (j := 0) rfl
      have q0_1 := (hH.blk (k := 0) rfl).cell (j := 1) rfl
      have q0_2 := (hH.blk (k := 0) rfl).cell (j := 2) rfl
      have q0_3 := (hH.blk (k := 0) rfl).cell (j := 3) rfl
      have q0_4 := (hH.blk (k := 0) rfl).cell (j := 4) rfl
      have l0_ := (hH.blk (k := 0) rfl).lt
      have c_kr_0 := hH.ext.cell kr_0
      have c_kr_1 := hH.ext.cell kr_1
      have c_kr_2 := hH.ext.cell kr_2
      have c_kr_l := Nat.lt_of_lt_of_le kr_l hH.ext.size
      go_wp2_with fail
      clear q0_0 q0_1 q0_2 q0_3 q0_4 l0_ c_kr_0 c_kr_1 c_kr_2 c_kr_l
      refine (zeroT_any H1.out UU.out SA.out _ _ _ (hH.ints (k := 1) rfl) (hH.ints (k := 2) rfl)).mono ?_; rintro ewn8 wn8 ⟨v9, rfl, o9, hwn8⟩
      obtain ⟨p1, n1, d1, p2, n2, d2, p3, n3, d3, rfl⟩ := o9.shape
      obtain ⟨ZX, hZX⟩ : ∃ q, flat (List.replicate (size (axs dimOf AL)) (rig H1.out).zero) = q := ⟨_, rfl⟩
      rw [hZX] at o9
      clear hZX
      replace hH : Held wN wn8 [aB (wN.heap.size) 29 [.int .i64 k, .int .i64 p, .int .i64 n, .slice aV m cV, .slice aO op.length cO], aI (.slice al AL.length cl) AL, aI (.slice ad AL.length cd) (AL.map dimOf), aT (.agg #[.slice p1 n1 d1, .slice p2 n2 d2, .slice p3 n3 d3]) AL (AL.map dimOf) ZX] := (hH.mores 1).addT 3 hwn8 o9 (Nat.le_refl _)
      clear hwn8
      have q0_0 := (hH.blk (k := 0) rfl).cell (j := 0) rfl
      have q0_1 := (hH.blk (k := 0) rfl).cell (j := 1) rfl
      have q0_2 := (hH.blk (k := 0) rfl).cell (j := 2) rfl
      have q0_3 := (hH.blk (k := 0) rfl).cell (j := 3) rfl
      have q0_4 := (hH.blk (k := 0) rfl).cell (j := 4) rfl
      have l0_ := (hH.blk (k := 0) rfl).lt
      have c_kr_0 := hH.ext.cell kr_0
      have c_kr_1 := hH.ext.cell kr_1
      have c_kr_2 := hH.ext.cell kr_2
      have c_kr_l := Nat.lt_of_lt_of_le kr_l hH.ext.size
      go_upto_region 15 with fail
      clear q0_0 q0_1 q0_2 q0_3 q0_4 l0_ c_kr_0 c_kr_1 c_kr_2 c_kr_l
      have hB : Held wN (wn8.alloc (.cells #[.slice p1 n1 d1, .slice p2 n2 d2, .slice p3 n3 d3] 32)) [aB (wN.heap.size) 29 [.int .i64 k, .int .i64 p, .int .i64 n, .slice aV m cV, .slice aO op.length cO], aI (.slice al AL.length cl) AL, aI (.slice ad AL.length cd) (AL.map dimOf), aT (.agg #[.slice p1 n1 d1, .slice p2 n2 d2, .slice p3 n3 d3]) AL (AL.map dimOf) ZX, aB (wn8.heap.size) 32 [.slice p1 n1 d1, .slice p2 n2 d2, .slice p3 n3 d3]] := by
        have h := (hH.mores 1).addB 4 #[.slice p1 n1 d1, .slice p2 n2 d2, .slice p3 n3 d3] 32
        exact h
      have hsz : (wn8.alloc (.cells #[.slice p1 n1 d1, .slice p2 n2 d2, .slice p3 n3 d3] 32)).heap.size = wn8.heap.size + 1 := by simp
      generalize wn8.alloc (.cells #[.slice p1 n1 d1, .slice p2 n2 d2, .slice p3 n3 d3] 32) = wn9 at hB hsz ⊢
      replace hH := hB; have HSZwn9 := Lib.hid hsz; clear hB hsz
      have q0_0 := (hH.blk (k := 0) rfl).cell (j := 0) rfl
      have q0_1 := (hH.blk (k := 0) rfl).cell (j := 1) rfl
      have q0_2 := (hH.blk (k := 0) rfl).cell (j := 2) rfl
      have q0_3 := (hH.blk (k := 0) rfl).cell (j := 3) rfl
      have q0_4 := (hH.blk (k := 0) rfl).cell (j := 4) rfl
      have l0_ := (hH.blk (k := 0) rfl).lt
      have q4_0 := (hH.blk (k := 4) rfl).cell (j := 0) rfl
      have q4_1 := (hH.blk (k := 4) rfl).cell (j := 1) rfl
      have q4_2 := (hH.blk (k := 4) rfl).cell (j := 2) rfl
      have l4_ := (hH.blk (k := 4) rfl).lt
      have c_kr_0 := hH.ext.cell kr_0
      have c_kr_1 := hH.ext.cell kr_1
      have c_kr_2 := hH.ext.cell kr_2
      have c_kr_l := Nat.lt_of_lt_of_le kr_l hH.ext.size
      go_wp2_with fail
      clear q0_0 q0_1 q0_2 q0_3 q0_4 l0_ q4_0 q4_1 q4_2 l4_ c_kr_0 c_kr_1 c_kr_2 c_kr_l
      refine (zeroOf_impl k p n _).mono ?_; rintro ewn10 wn10 ⟨vs, rfl, os, hwn10⟩
      rw [zeroOf_yes HR.out, ← HS0.out] at os
      replace hH : Held wN wn10 [aB (wN.heap.size) 29 [.int .i64 k, .int .i64 p, .int .i64 n, .slice aV m cV, .slice aO op.length cO], aI (.slice al AL.length cl) AL, aI (.slice ad AL.length cd) (AL.map dimOf), aT (.agg #[.slice p1 n1 d1, .slice p2 n2 d2, .slice p3 n3 d3]) AL (AL.map dimOf) ZX, aB (wn8.heap.size) 32 [.slice p1 n1 d1, .slice p2 n2 d2, .slice p3 n3 d3], aI vs (S 0).1] := (hH.mores 1).addI 5 hwn10 os (Nat.le_refl _)
      clear hwn10
      have q0_0 := (hH.blk (k := 0) rfl).cell (j := 0) rfl
      have q0_1 := (hH.blk (k := 0) rfl).cell (j := 1) rfl
      have q0_2 := (hH.blk (k := 0) rfl).cell (j := 2) rfl
      have q0_3 := (hH.blk (k := 0) rfl).cell (j := 3) rfl
      have q0_4 := (hH.blk (k := 0) rfl).cell (j := 4) rfl
      have l0_ := (hH.blk (k := 0) rfl).lt
      have q4_0 := (hH.blk (k := 4) rfl).cell (j := 0) rfl
      have q4_1 := (hH.blk (k := 4) rfl).cell (j := 1) rfl
      have q4_2 := (hH.blk (k := 4) rfl).cell (j := 2) rfl
      have l4_ := (hH.blk (k := 4) rfl).lt
      have c_kr_0 := hH.ext.cell kr_0
      have c_kr_1 := hH.ext.cell kr_1
      have c_kr_2 := hH.ext.cell kr_2
      have c_kr_l := Nat.lt_of_lt_of_le kr_l hH.ext.size
      go_wp2_with fail
      clear q0_0 q0_1 q0_2 q0_3 q0_4 l0_ q4_0 q4_1 q4_2 l4_ c_kr_0 c_kr_1 c_kr_2 c_kr_l
      go_loopw [11, 12] (fun vs i wr => ∃ o : Nat, o ≤ NA ∧ i = .int .i64 (o : Int) ∧ Held wN wr [aB (wN.heap.size) 29 [.int .i64 k, .int .i64 p, .int .i64 n, .slice aV m cV, .slice aO op.length cO], aI (.slice al AL.length cl) AL, aI (.slice ad AL.length cd) (AL.map dimOf), aT (.agg #[.slice p1 n1 d1, .slice p2 n2 d2, .slice p3 n3 d3]) AL (AL.map dimOf) ZX, aB (wn8.heap.size) 32 [.slice p1 n1 d1, .slice p2 n2 d2, .slice p3 n3 d3], aI vs (S o).1]) (fun vs i wr => NA - (RowKit.intOf i).toNat)
      case atStart => exact ⟨0, Nat.zero_le _, rfl, hH⟩
      case round =>
        clear hH
        rename_i vs
        obtain ⟨o, ho, rfl, hH⟩ := hrel
        obtain ⟨x, hx⟩ : ∃ x, (S o).1 = x := ⟨_, rfl⟩
        have HXK : Hid (rawOk k p n x = true) := Lib.hid (hx ▸ (S o).2)
        rw [hx] at hH
        have HX := Lib.hid hx; clear hx
        obtain ⟨aS, cs', rfl⟩ := (hH.own (k := 5) rfl).shape1 x.length rfl
        obtain ⟨wq, rfl⟩ : ∃ q, q = wr := ⟨wr, rfl⟩
        have q0_0 := (hH.blk (k := 0) rfl).cell (j := 0) rfl
        have q0_1 := (hH.blk (k := 0) rfl).cell (j := 1) rfl
        have q0_2 := (hH.blk (k := 0) rfl).cell (j := 2) rfl
        have q0_3 := (hH.blk (k := 0) rfl).cell (j := 3) rfl
        have q0_4 := (hH.blk (k := 0) rfl).cell (j := 4) rfl
        have l0_ := (hH.blk (k := 0) rfl).lt
        have q4_0 := (hH.blk (k := 4) rfl).cell (j := 0) rfl
        have q4_1 := (hH.blk (k := 4) rfl).cell (j := 1) rfl
        have q4_2 := (hH.blk (k := 4) rfl).cell (j := 2) rfl
        have l4_ := (hH.blk (k := 4) rfl).lt
        have c_kr_0 := hH.ext.cell kr_0
        have c_kr_1 := hH.ext.cell kr_1
        have c_kr_2 := hH.ext.cell kr_2
        have c_kr_l := Nat.lt_of_lt_of_le kr_l hH.ext.size
        go_wp2_with fail
        clear q0_0 q0_1 q0_2 q0_3 q0_4 l0_ q4_0 q4_1 q4_2 l4_ c_kr_0 c_kr_1 c_kr_2 c_kr_l
        refine (tensorSize_impl _ AL (AL.map dimOf) ZX _ (hH.tens (k := 3) rfl)).mono ?_; rintro ewn11 wn11 ⟨rfl, hwn11⟩
        rw [HTS.out]
        replace hH : Held wN wn11 [aB (wN.heap.size) 29 [.int .i64 k, .int .i64 p, .int .i64 n, .slice aV m cV, .slice aO op.length cO], aI (.slice al AL.length cl) AL, aI (.slice ad AL.length cd) (AL.map dimOf), aT (.agg #[.slice p1 n1 d1, .slice p2 n2 d2, .slice p3 n3 d3]) AL (AL.map dimOf) ZX, aB (wn8.heap.size) 32 [.slice p1 n1 d1, .slice p2 n2 d2, .slice p3 n3 d3], aI (.slice aS x.length cs') x] := hH.grow hwn11
        clear hwn11
        by_cases hlt : o < NA
        · skip
          have q0_0 := (hH.blk (k := 0) rfl).cell (j := 0) rfl
          have q0_1 := (hH.blk (k := 0) rfl).cell (j := 1) rfl
          have q0_2 := (hH.blk (k := 0) rfl).cell (j := 2) rfl
          have q0_3 := (hH.blk (k := 0) rfl).cell (j := 3) rfl
          have q0_4 := (hH.blk (k := 0) rfl).cell (j := 4) rfl
          have l0_ := (hH.blk (k := 0) rfl).lt
          have q4_0 := (hH.blk (k := 4) rfl).cell (j := 0) rfl
          have q4_1 := (hH.blk (k := 4) rfl).cell (j := 1) rfl
          have q4_2 := (hH.blk (k := 4) rfl).cell (j := 2) rfl
          have l4_ := (hH.blk (k := 4) rfl).lt
          have c_kr_0 := hH.ext.cell kr_0
          have c_kr_1 := hH.ext.cell kr_1
          have c_kr_2 := hH.ext.cell kr_2
          have c_kr_l := Nat.lt_of_lt_of_le kr_l hH.ext.size
          go_wp2_with fail
          clear q0_0 q0_1 q0_2 q0_3 q0_4 l0_ q4_0 q4_1 q4_2 l4_ c_kr_0 c_kr_1 c_kr_2 c_kr_l
          refine (indexAt_yes _ AL (AL.map dimOf) ZX (o : Int) _ (hH.tens (k := 3) rfl) HAX.out (by omega) (by rw [HPN.out]; omega)).mono ?_; rintro ewn12 wn12 ⟨vi, rfl, oi, hwn12⟩
          rw [HIX.out o hlt] at oi
          obtain ⟨ai, ci, rfl⟩ := oi.shape1 AL.length (by rw [List.length_map])
          replace hH : Held wN wn12 [aB (wN.heap.size) 29 [.int .i64 k, .int .i64 p, .int .i64 n, .slice aV m cV, .slice aO op.length cO], aI (.slice al AL.length cl) AL, aI (.slice ad AL.length cd) (AL.map dimOf), aT (.agg #[.slice p1 n1 d1, .slice p2 n2 d2, .slice p3 n3 d3]) AL (AL.map dimOf) ZX, aB (wn8.heap.size) 32 [.slice p1 n1 d1, .slice p2 n2 d2, .slice p3 n3 d3], aI (.slice aS x.length cs') x, aI (.slice ai AL.length ci) (AL.map (asg (axs dimOf AL) o σ0))] := (hH.mores 1).addI 6 hwn12 oi (Nat.le_refl _)
          clear hwn12
          have HOK := Lib.hid (HIO.out o)
          have HFK : Hid (rawOk k p n (F o).1 = true) := Lib.hid (F o).2
          have HSN := Lib.hid (HSS.out o); rw [HX.out] at HSN
          have HFF := Lib.hid (congrArg Subtype.val (HFO.out o))
          obtain ⟨f, hf⟩ : ∃ f, (F o).1 = f := ⟨_, rfl⟩
          rw [hf] at HFK HSN HFF
          clear hf
          have q0_0 := (hH.blk (k := 0) rfl).cell (j := 0) rfl
          have q0_1 := (hH.blk (k := 0) rfl).cell (j := 1) rfl
          have q0_2 := (hH.blk (k := 0) rfl).cell (j := 2) rfl
          have q0_3 := (hH.blk (k := 0) rfl).cell (j := 3) rfl
          have q0_4 := (hH.blk (k := 0) rfl).cell (j := 4) rfl
          have l0_ := (hH.blk (k := 0) rfl).lt
          have q4_0 := (hH.blk (k := 4) rfl).cell (j := 0) rfl
          have q4_1 := (hH.blk (k := 4) rfl).cell (j := 1) rfl
          have q4_2 := (hH.blk (k := 4) rfl).cell (j := 2) rfl
          have l4_ := (hH.blk (k := 4) rfl).lt
          have c_kr_0 := hH.ext.cell kr_0
          have c_kr_1 := hH.ext.cell kr_1
          have c_kr_2 := hH.ext.cell kr_2
          have c_kr_l := Nat.lt_of_lt_of_le kr_l hH.ext.size
          go_upto_region 22 with fail
          clear q0_0 q0_1 q0_2 q0_3 q0_4 l0_ q4_0 q4_1 q4_2 l4_ c_kr_0 c_kr_1 c_kr_2 c_kr_l
          replace hH := hH.mores 2
          replace hH : Held wN wn12 [aB (wN.heap.size) 29 [.int .i64 k, .int .i64 p, .int .i64 n, .slice aV m cV, .slice aO op.length cO], aI (.slice al AL.length cl) AL, aI (.slice ad AL.length cd) (AL.map dimOf), aT (.agg #[.slice p1 n1 d1, .slice p2 n2 d2, .slice p3 n3 d3]) AL (AL.map dimOf) ZX, aB (wn8.heap.size) 32 [.slice p1 n1 d1, .slice p2 n2 d2, .slice p3 n3 d3], aI (.slice aS x.length cs') x, aI (.slice ai AL.length ci) (AL.map (asg (axs dimOf AL) o σ0)), emp, emp] := hH
          refine wp_region_steps ?Fc (fun b t wx => Held wN wx [aB (wN.heap.size) 29 [.int .i64 k, .int .i64 p, .int .i64 n, .slice aV m cV, .slice aO op.length cO], aI (.slice al AL.length cl) AL, aI (.slice ad AL.length cd) (AL.map dimOf), aT (.agg #[.slice p1 n1 d1, .slice p2 n2 d2, .slice p3 n3 d3]) AL (AL.map dimOf) ZX, aB (wn8.heap.size) 32 [.slice p1 n1 d1, .slice p2 n2 d2, .slice p3 n3 d3], aI (.slice aS x.length cs') x, aI (.slice ai AL.length ci) (AL.map (asg (axs dimOf AL) o σ0)), (bif b 4 then aI (t 4) f else emp), (bif b 5 then aI (t 5) (S (o + 1)).1 else emp)] ∧ (b 0 = true → t 0 = .agg #[.int .i64 k, .int .i64 p, .int .i64 n]) ∧ (b 1 = true → t 1 = .slice aS x.length cs') ∧ (b 2 = true → t 2 = .agg #[.int .i64 k, .int .i64 p, .int .i64 n, .slice aV m cV, .slice aO op.length cO]) ∧ (b 3 = true → t 3 = .slice ai AL.length ci) ∧ (b 4 = true → ∃ x n' c, t 4 = .slice x n' c) ∧ (b 5 = true → ∃ x n' c, t 5 = .slice x n' c) ∧ (b 6 = true → t 6 = t 5) ∧ Hid (b 6 = false → t 6 = .slice aS x.length cs')) ?hFc (by kernel_rfl) (by kernel_rfl) ?hJc ?hSc ?hEc
          (case hFc => intro t; simp only [putAll, Act.put, List.setIfInBounds_toArray, List.set_cons_zero, List.set_cons_succ, Nat.reduceAdd, Nat.zero_add]; exact rfl)
          case hJc => exact ⟨hH.grow ((Ext.refl _).drew), fun h => absurd h Bool.false_ne_true, fun h => absurd h Bool.false_ne_true, fun h => absurd h Bool.false_ne_true, fun h => absurd h Bool.false_ne_true, fun h => absurd h Bool.false_ne_true, fun h => absurd h Bool.false_ne_true, fun h => absurd h Bool.false_ne_true, Lib.hid fun _ => rfl⟩
          case hSc =>
            as_aux_lemma =>
              refine AllSteps.cons (j := 1) rfl (fun b t wx hJ hb hd hcl Kc hK => ?_) ?_
              · obtain ⟨hH, v0, v1, v2, v3, v4, v5, v6, old6⟩ := hJ
                have c_kr_0 := hH.ext.cell kr_0
                have c_kr_1 := hH.ext.cell kr_1
                have c_kr_2 := hH.ext.cell kr_2
                go_simp
                refine hK.out _ ?_ _ ?_ ?_; rotate_left 2
                · rfl
                exact ⟨hH, fun _ => rfl, v1, v2, v3, v4, v5, v6, old6⟩
              refine AllSteps.cons (j := 2) rfl (fun b t wx hJ hb hd hcl Kc hK => ?_) ?_
              · obtain ⟨hH, v0, v1, v2, v3, v4, v5, v6, old6⟩ := hJ
                have n6 : b 6 = false := Bool.eq_false_iff.2 fun h => absurd (hcl.out 6 1 (by kernel_rfl) (h)) (by rw [hb]; exact Bool.false_ne_true)
                have eo6 := old6.out n6
                have c_kr_0 := hH.ext.cell kr_0
                have c_kr_1 := hH.ext.cell kr_1
                have c_kr_2 := hH.ext.cell kr_2
                go_simp
                refine hK.out _ ?_ _ ?_ ?_; rotate_left 2
                · (try simp only [eo6]); rfl
                exact ⟨hH, v0, fun _ => rfl, v2, v3, v4, v5, v6, old6⟩
              refine AllSteps.cons (j := 3) rfl (fun b t wx hJ hb hd hcl Kc hK => ?_) ?_
              · obtain ⟨hH, v0, v1, v2, v3, v4, v5, v6, old6⟩ := hJ
                have c_kr_0 := hH.ext.cell kr_0
                have c_kr_1 := hH.ext.cell kr_1
                have c_kr_2 := hH.ext.cell kr_2
                have q0_0 := (hH.blk (k := 0) rfl).cell (j := 0) rfl
                have q0_1 := (hH.blk (k := 0) rfl).cell (j := 1) rfl
                have q0_2 := (hH.blk (k := 0) rfl).cell (j := 2) rfl
                have q0_3 := (hH.blk (k := 0) rfl).cell (j := 3) rfl
                have q0_4 := (hH.blk (k := 0) rfl).cell (j := 4) rfl
                go_simp
                refine hK.out _ ?_ _ ?_ ?_; rotate_left 2
                · rfl
                exact ⟨hH, v0, v1, fun _ => rfl, v3, v4, v5, v6, old6⟩
              refine AllSteps.cons (j := 4) rfl (fun b t wx hJ hb hd hcl Kc hK => ?_) ?_
              · obtain ⟨hH, v0, v1, v2, v3, v4, v5, v6, old6⟩ := hJ
                have c_kr_0 := hH.ext.cell kr_0
                have c_kr_1 := hH.ext.cell kr_1
                have c_kr_2 := hH.ext.cell kr_2
                go_simp
                refine hK.out _ ?_ _ ?_ ?_; rotate_left 2
                · rfl
                exact ⟨hH, v0, v1, v2, fun _ => rfl, v4, v5, v6, old6⟩
              refine AllSteps.cons (j := 5) rfl (fun b t wx hJ hb hd hcl Kc hK => ?_) ?_
              · obtain ⟨hH, v0, v1, v2, v3, v4, v5, v6, old6⟩ := hJ
                have d2 : b 2 = true := hd.out 2 (by kernel_rfl)
                have d3 : b 3 = true := hd.out 3 (by kernel_rfl)
                have r2 := v2 d2
                have r3 := v3 d3
                have hN := hH; (try simp only [hb, d2, d3, cond_true, cond_false] at hN)
                go_simp
                go_at_call 30
                refine (weightOf_any HR.out HN.out _ _ _ (hT0.ext hH.ext) (hO.ext hH.ext) HAL.out o HOK.out _ (hH.ints (k := 6) rfl)).mono ?_; rintro e4 w4 ⟨v4, rfl, o4, h4⟩
                rw [show (netF HR.out dimOf ts (asg (axs dimOf AL) o σ0)).1 = f from HFF.out] at o4
                obtain ⟨x4, c4, rfl, _, _⟩ := o4.ints.val
                (try go_simp)
                refine hK.out _ ?_ _ ?_ ?_; rotate_left 2
                · (try simp only [r2, r3]); rfl
                exact ⟨by have hX := hN.addI 7 h4 o4 (Nat.le_refl _); (try simp only [List.set_cons_zero, List.set_cons_succ] at hX); simpa only [updB, updV, blkOf_mk, tup0_mk, partsOf3, Nat.reduceBEq, cond_true, cond_false, hb, d2, d3, r2, r3] using hX, v0, v1, v2, v3, fun _ => ⟨_, _, _, rfl⟩, v5, v6, old6⟩
              refine AllSteps.cons (j := 6) rfl (fun b t wx hJ hb hd hcl Kc hK => ?_) ?_
              · obtain ⟨hH, v0, v1, v2, v3, v4, v5, v6, old6⟩ := hJ
                have d0 : b 0 = true := hd.out 0 (by kernel_rfl)
                have d1 : b 1 = true := hd.out 1 (by kernel_rfl)
                have d4 : b 4 = true := hd.out 4 (by kernel_rfl)
                have n6 : b 6 = false := Bool.eq_false_iff.2 fun h => absurd (hcl.out 6 5 (by kernel_rfl) (h)) (by rw [hb]; exact Bool.false_ne_true)
                have r0 := v0 d0
                have r1 := v1 d1
                have r4 := v4 d4
                obtain ⟨x_4, n'_4, c_4, r4⟩ := r4
                have hN := hH; (try simp only [hb, d0, d1, d4, n6, cond_true, cond_false] at hN)
                rw [r4] at hN -- d4
                have hN4 := hN.ints (k := 7) rfl
                go_simp
                go_at_call 29
                refine (addElem_impl k p n _ _ x f _ (hH.ints (k := 5) rfl) hN4).mono ?_; rintro e5 w5 ⟨v5, rfl, o5, h5⟩
                rw [addOf_raw HR.out HXK.out HFK.out, ← HSN.out] at o5
                obtain ⟨x5, c5, rfl, _, _⟩ := o5.ints.val
                (try go_simp)
                refine hK.out _ ?_ _ ?_ ?_; rotate_left 2
                · (try simp only [r0, r1, r4]); rfl
                exact ⟨by have hX := hN.addI 8 h5 o5 (Nat.le_refl _); (try simp only [List.set_cons_zero, List.set_cons_succ] at hX); simpa only [updB, updV, blkOf_mk, tup0_mk, partsOf3, Nat.reduceBEq, cond_true, cond_false, hb, d0, d1, d4, n6, r0, r1, r4] using hX, v0, v1, v2, v3, v4, fun _ => ⟨_, _, _, rfl⟩, fun h => absurd (show b 6 = true from h) (by rw [n6]; exact Bool.false_ne_true), old6⟩
              refine AllSteps.cons (j := 7) rfl (fun b t wx hJ hb hd hcl Kc hK => ?_) ?_
              · obtain ⟨hH, v0, v1, v2, v3, v4, v5, v6, old6⟩ := hJ
                have d0 : b 0 = true := hd.out 0 (by kernel_rfl)
                have d1 : b 1 = true := hd.out 1 (by kernel_rfl)
                have d2 : b 2 = true := hd.out 2 (by kernel_rfl)
                have d3 : b 3 = true := hd.out 3 (by kernel_rfl)
                have d4 : b 4 = true := hd.out 4 (by kernel_rfl)
                have d5 : b 5 = true := hd.out 5 (by kernel_rfl)
                have r0 := v0 d0
                have r1 := v1 d1
                have r2 := v2 d2
                have r3 := v3 d3
                have r4 := v4 d4
                have r5 := v5 d5
                obtain ⟨x_4, n'_4, c_4, r4⟩ := r4
                obtain ⟨x_5, n'_5, c_5, r5⟩ := r5
                have c_kr_0 := hH.ext.cell kr_0
                have c_kr_1 := hH.ext.cell kr_1
                have c_kr_2 := hH.ext.cell kr_2
                go_simp
                refine hK.out _ ?_ _ ?_ ?_; rotate_left 2
                · (try simp only [r0, r1, r2, r3, r4, r5]); rfl
                exact ⟨hH, v0, v1, v2, v3, v4, v5, fun _ => (by first | rfl | exact r5.symm), Lib.hid fun h => absurd (show true = false from h) (by decide)⟩
              exact AllSteps.nil
          case hEc =>
            intro b t wc hJ hall
            obtain ⟨hHc, v0, v1, v2, v3, v4, v5, v6, old6⟩ := hJ
            clear old6
            have a0 : b 0 = true := hall 0 (by decide)
            have a1 : b 1 = true := hall 1 (by decide)
            have a2 : b 2 = true := hall 2 (by decide)
            have a3 : b 3 = true := hall 3 (by decide)
            have a4 : b 4 = true := hall 4 (by decide)
            have a5 : b 5 = true := hall 5 (by decide)
            have a6 : b 6 = true := hall 6 (by decide)
            (try simp only [a0, a1, a2, a3, a4, a5, a6, cond_true] at hHc)
            replace v0 := v0 a0
            replace v1 := v1 a1
            replace v2 := v2 a2
            replace v3 := v3 a3
            replace v4 := v4 a4
            replace v5 := v5 a5
            replace v6 := v6 a6
            clear hall a0 a1 a2 a3 a4 a5 a6
            generalize t 6 = x6 at hHc v6 ⊢
            generalize t 5 = x5 at hHc v5 v6 ⊢
            generalize t 4 = x4 at hHc v4 ⊢
            generalize t 3 = x3 at hHc v3 ⊢
            generalize t 2 = x2 at hHc v2 ⊢
            generalize t 1 = x1 at hHc v1 ⊢
            generalize t 0 = x0 at hHc v0 ⊢
            subst v0
            subst v1
            subst v2
            subst v3
            obtain ⟨xc4, n'c4, cc4, rfl⟩ := v4
            obtain ⟨xc5, n'c5, cc5, rfl⟩ := v5
            subst v6
            clear b
            replace hH := hHc; clear hHc
            replace hH : Held wN wc [aB (wN.heap.size) 29 [.int .i64 k, .int .i64 p, .int .i64 n, .slice aV m cV, .slice aO op.length cO], aI (.slice al AL.length cl) AL, aI (.slice ad AL.length cd) (AL.map dimOf), aT (.agg #[.slice p1 n1 d1, .slice p2 n2 d2, .slice p3 n3 d3]) AL (AL.map dimOf) ZX, aB (wn8.heap.size) 32 [.slice p1 n1 d1, .slice p2 n2 d2, .slice p3 n3 d3], aI (.slice aS x.length cs') x, aI (.slice ai AL.length ci) (AL.map (asg (axs dimOf AL) o σ0)), aI (.slice xc4 n'c4 cc4) f, aI (.slice xc5 n'c5 cc5) (S (o + 1)).1] := hH
            replace hH : Held wN wc [aB (wN.heap.size) 29 [.int .i64 k, .int .i64 p, .int .i64 n, .slice aV m cV, .slice aO op.length cO], aI (.slice al AL.length cl) AL, aI (.slice ad AL.length cd) (AL.map dimOf), aT (.agg #[.slice p1 n1 d1, .slice p2 n2 d2, .slice p3 n3 d3]) AL (AL.map dimOf) ZX, aB (wn8.heap.size) 32 [.slice p1 n1 d1, .slice p2 n2 d2, .slice p3 n3 d3], aI (.slice xc5 n'c5 cc5) (S (o + 1)).1] := hH.sub (.cons_cons _ (.cons_cons _ (.cons_cons _ (.cons_cons _ (.cons_cons _ (.cons _ (.cons _ (.cons _ (.cons_cons _ .slnil)))))))))
            go_wp2_with fail
            go_roundw
            case rel => exact ⟨o + 1, by omega, by go_num, hH⟩
            case measure => simp [RowKit.intOf]; omega
        · skip
          have hoe : o = NA := by omega
          have HXN : Hid (x = (S NA).1) := Lib.hid (by rw [← hoe]; exact HX.out.symm)
          subst hoe
          have q0_0 := (hH.blk (k := 0) rfl).cell (j := 0) rfl
          have q0_1 := (hH.blk (k := 0) rfl).cell (j := 1) rfl
          have q0_2 := (hH.blk (k := 0) rfl).cell (j := 2) rfl
          have q0_3 := (hH.blk (k := 0) rfl).cell (j := 3) rfl
          have q0_4 := (hH.blk (k := 0) rfl).cell (j := 4) rfl
          have l0_ := (hH.blk (k := 0) rfl).lt
          have q4_0 := (hH.blk (k := 4) rfl).cell (j := 0) rfl
          have q4_1 := (hH.blk (k := 4) rfl).cell (j := 1) rfl
          have q4_2 := (hH.blk (k := 4) rfl).cell (j := 2) rfl
          have l4_ := (hH.blk (k := 4) rfl).lt
          have c_kr_0 := hH.ext.cell kr_0
          have c_kr_1 := hH.ext.cell kr_1
          have c_kr_2 := hH.ext.cell kr_2
          have c_kr_l := Nat.lt_of_lt_of_le kr_l hH.ext.size
          go_wp2_with fail
          clear q0_0 q0_1 q0_2 q0_3 q0_4 l0_ q4_0 q4_1 q4_2 l4_ c_kr_0 c_kr_1 c_kr_2 c_kr_l
          refine (networkValue_any HR.out HN.out _ _ _ (hT0.ext hH.ext) (hO.ext hH.ext)).mono ?_; rintro ewn13 wn13 ⟨uv, rfl, ov, hwn13⟩
          rw [show netXs HR.out dimOf ts op = RX from HRX.out] at ov
          obtain ⟨e1, m1, f1, e2, m2, f2, e3, m3, f3, rfl⟩ := ov.shape
          obtain ⟨_, _, _, hvv, hVL, hVD, hVX⟩ := ov.tens.val
          simp at hvv
          obtain ⟨rfl, rfl, rfl⟩ := hvv
          obtain ⟨_, _, hvv, _, _⟩ := hVL.val
          cases hvv
          clear hVL hVD hVX
          replace hH : Held wN wn13 [aB (wN.heap.size) 29 [.int .i64 k, .int .i64 p, .int .i64 n, .slice aV m cV, .slice aO op.length cO], aI (.slice al AL.length cl) AL, aI (.slice ad AL.length cd) (AL.map dimOf), aT (.agg #[.slice p1 n1 d1, .slice p2 n2 d2, .slice p3 n3 d3]) AL (AL.map dimOf) ZX, aB (wn8.heap.size) 32 [.slice p1 n1 d1, .slice p2 n2 d2, .slice p3 n3 d3], aI (.slice aS x.length cs') x, aT (.agg #[.slice e1 op.length f1, .slice e2 m2 f2, .slice e3 m3 f3]) op (op.map dimOf) (flat RX)] := (hH.mores 1).addT 6 hwn13 ov (Nat.le_refl _)
          clear hwn13
          have q0_0 := (hH.blk (k := 0) rfl).cell (j := 0) rfl
          have q0_1 := (hH.blk (k := 0) rfl).cell (j := 1) rfl
          have q0_2 := (hH.blk (k := 0) rfl).cell (j := 2) rfl
          have q0_3 := (hH.blk (k := 0) rfl).cell (j := 3) rfl
          have q0_4 := (hH.blk (k := 0) rfl).cell (j := 4) rfl
          have l0_ := (hH.blk (k := 0) rfl).lt
          have q4_0 := (hH.blk (k := 4) rfl).cell (j := 0) rfl
          have q4_1 := (hH.blk (k := 4) rfl).cell (j := 1) rfl
          have q4_2 := (hH.blk (k := 4) rfl).cell (j := 2) rfl
          have l4_ := (hH.blk (k := 4) rfl).lt
          have c_kr_0 := hH.ext.cell kr_0
          have c_kr_1 := hH.ext.cell kr_1
          have c_kr_2 := hH.ext.cell kr_2
          have c_kr_l := Nat.lt_of_lt_of_le kr_l hH.ext.size
          go_upto_region 24 with fail
          clear q0_0 q0_1 q0_2 q0_3 q0_4 l0_ q4_0 q4_1 q4_2 l4_ c_kr_0 c_kr_1 c_kr_2 c_kr_l
          have hB : Held wN (wn13.alloc (.cells #[.slice e1 op.length f1, .slice e2 m2 f2, .slice e3 m3 f3] 32)) [aB (wN.heap.size) 29 [.int .i64 k, .int .i64 p, .int .i64 n, .slice aV m cV, .slice aO op.length cO], aI (.slice al AL.length cl) AL, aI (.slice ad AL.length cd) (AL.map dimOf), aT (.agg #[.slice p1 n1 d1, .slice p2 n2 d2, .slice p3 n3 d3]) AL (AL.map dimOf) ZX, aB (wn8.heap.size) 32 [.slice p1 n1 d1, .slice p2 n2 d2, .slice p3 n3 d3], aI (.slice aS x.length cs') x, aT (.agg #[.slice e1 op.length f1, .slice e2 m2 f2, .slice e3 m3 f3]) op (op.map dimOf) (flat RX), aB (wn13.heap.size) 32 [.slice e1 op.length f1, .slice e2 m2 f2, .slice e3 m3 f3]] := by
            have h := (hH.mores 1).addB 7 #[.slice e1 op.length f1, .slice e2 m2 f2, .slice e3 m3 f3] 32
            exact h
          have hsz : (wn13.alloc (.cells #[.slice e1 op.length f1, .slice e2 m2 f2, .slice e3 m3 f3] 32)).heap.size = wn13.heap.size + 1 := by simp
          generalize wn13.alloc (.cells #[.slice e1 op.length f1, .slice e2 m2 f2, .slice e3 m3 f3] 32) = wn14 at hB hsz ⊢
          replace hH := hB; have HSZwn14 := Lib.hid hsz; clear hB hsz
          have q0_0 := (hH.blk (k := 0) rfl).cell (j := 0) rfl
          have q0_1 := (hH.blk (k := 0) rfl).cell (j := 1) rfl
          have q0_2 := (hH.blk (k := 0) rfl).cell (j := 2) rfl
          have q0_3 := (hH.blk (k := 0) rfl).cell (j := 3) rfl
          have q0_4 := (hH.blk (k := 0) rfl).cell (j := 4) rfl
          have l0_ := (hH.blk (k := 0) rfl).lt
          have q4_0 := (hH.blk (k := 4) rfl).cell (j := 0) rfl
          have q4_1 := (hH.blk (k := 4) rfl).cell (j := 1) rfl
          have q4_2 := (hH.blk (k := 4) rfl).cell (j := 2) rfl
          have l4_ := (hH.blk (k := 4) rfl).lt
          have q7_0 := (hH.blk (k := 7) rfl).cell (j := 0) rfl
          have q7_1 := (hH.blk (k := 7) rfl).cell (j := 1) rfl
          have q7_2 := (hH.blk (k := 7) rfl).cell (j := 2) rfl
          have l7_ := (hH.blk (k := 7) rfl).lt
          have c_kr_0 := hH.ext.cell kr_0
          have c_kr_1 := hH.ext.cell kr_1
          have c_kr_2 := hH.ext.cell kr_2
          have c_kr_l := Nat.lt_of_lt_of_le kr_l hH.ext.size
          go_wp2_with fail
          clear q0_0 q0_1 q0_2 q0_3 q0_4 l0_ q4_0 q4_1 q4_2 l4_ q7_0 q7_1 q7_2 l7_ c_kr_0 c_kr_1 c_kr_2 c_kr_l
          refine (sumLabels_any HR.out HTX.out [] _ _ _ (hH.tens (k := 6) rfl) (IntS.nil _)).mono ?_; rintro ewn15 wn15 ⟨us, rfl, ol, hwn15⟩
          rw [HTD.out] at ol
          obtain ⟨b1, g1, a1, b2, g2, a2, b3, g3, a3, rfl⟩ := ol.shape
          replace hH : Held wN wn15 [aB (wN.heap.size) 29 [.int .i64 k, .int .i64 p, .int .i64 n, .slice aV m cV, .slice aO op.length cO], aI (.slice al AL.length cl) AL, aI (.slice ad AL.length cd) (AL.map dimOf), aT (.agg #[.slice p1 n1 d1, .slice p2 n2 d2, .slice p3 n3 d3]) AL (AL.map dimOf) ZX, aB (wn8.heap.size) 32 [.slice p1 n1 d1, .slice p2 n2 d2, .slice p3 n3 d3], aI (.slice aS x.length cs') x, aT (.agg #[.slice e1 op.length f1, .slice e2 m2 f2, .slice e3 m3 f3]) op (op.map dimOf) (flat RX), aB (wn13.heap.size) 32 [.slice e1 op.length f1, .slice e2 m2 f2, .slice e3 m3 f3], aT (.agg #[.slice b1 g1 a1, .slice b2 g2 a2, .slice b3 g3 a3]) (keepL op []) ((keepL op []).map dimOf) (S o).1] := (hH.mores 1).addT 8 hwn15 ol (Nat.le_refl _)
          clear hwn15
          have hfd : ∀ w : World, (Instr.field 32 (.agg #[.slice b1 g1 a1, .slice b2 g2 a2, .slice b3 g3 a3]) 2).run Try.prog w = .ok (.slice b3 g3 a3) w := fun _ => by kernel_rfl
          have q0_0 := (hH.blk (k := 0) rfl).cell (j := 0) rfl
          have q0_1 := (hH.blk (k := 0) rfl).cell (j := 1) rfl
          have q0_2 := (hH.blk (k := 0) rfl).cell (j := 2) rfl
          have q0_3 := (hH.blk (k := 0) rfl).cell (j := 3) rfl
          have q0_4 := (hH.blk (k := 0) rfl).cell (j := 4) rfl
          have l0_ := (hH.blk (k := 0) rfl).lt
          have q4_0 := (hH.blk (k := 4) rfl).cell (j := 0) rfl
          have q4_1 := (hH.blk (k := 4) rfl).cell (j := 1) rfl
          have q4_2 := (hH.blk (k := 4) rfl).cell (j := 2) rfl
          have l4_ := (hH.blk (k := 4) rfl).lt
          have q7_0 := (hH.blk (k := 7) rfl).cell (j := 0) rfl
          have q7_1 := (hH.blk (k := 7) rfl).cell (j := 1) rfl
          have q7_2 := (hH.blk (k := 7) rfl).cell (j := 2) rfl
          have l7_ := (hH.blk (k := 7) rfl).lt
          have c_kr_0 := hH.ext.cell kr_0
          have c_kr_1 := hH.ext.cell kr_1
          have c_kr_2 := hH.ext.cell kr_2
          have c_kr_l := Nat.lt_of_lt_of_le kr_l hH.ext.size
          go_wp2_with fail
          clear q0_0 q0_1 q0_2 q0_3 q0_4 l0_ q4_0 q4_1 q4_2 l4_ q7_0 q7_1 q7_2 l7_ c_kr_0 c_kr_1 c_kr_2 c_kr_l
          clear hfd
          refine (ints_sameN _ _ _ _ _ (hH.ints (k := 5) rfl) (by have h := (hH.parts (k := 8) rfl).2.2.ints; exact h) HXN.out).mono ?_; rintro ewn16 wn16 ⟨rfl, hwn16⟩
          replace hH : Held wN wn16 [aB (wN.heap.size) 29 [.int .i64 k, .int .i64 p, .int .i64 n, .slice aV m cV, .slice aO op.length cO], aI (.slice al AL.length cl) AL, aI (.slice ad AL.length cd) (AL.map dimOf), aT (.agg #[.slice p1 n1 d1, .slice p2 n2 d2, .slice p3 n3 d3]) AL (AL.map dimOf) ZX, aB (wn8.heap.size) 32 [.slice p1 n1 d1, .slice p2 n2 d2, .slice p3 n3 d3], aI (.slice aS x.length cs') x, aT (.agg #[.slice e1 op.length f1, .slice e2 m2 f2, .slice e3 m3 f3]) op (op.map dimOf) (flat RX), aB (wn13.heap.size) 32 [.slice e1 op.length f1, .slice e2 m2 f2, .slice e3 m3 f3], aT (.agg #[.slice b1 g1 a1, .slice b2 g2 a2, .slice b3 g3 a3]) (keepL op []) ((keepL op []).map dimOf) (S o).1] := hH.grow hwn16
          clear hwn16
          have q0_0 := (hH.blk (k := 0) rfl).cell (j := 0) rfl
          have q0_1 := (hH.blk (k := 0) rfl).cell (j := 1) rfl
          have q0_2 := (hH.blk (k := 0) rfl).cell (j := 2) rfl
          have q0_3 := (hH.blk (k := 0) rfl).cell (j := 3) rfl
          have q0_4 := (hH.blk (k := 0) rfl).cell (j := 4) rfl
          have l0_ := (hH.blk (k := 0) rfl).lt
          have q4_0 := (hH.blk (k := 4) rfl).cell (j := 0) rfl
          have q4_1 := (hH.blk (k := 4) rfl).cell (j := 1) rfl
          have q4_2 := (hH.blk (k := 4) rfl).cell (j := 2) rfl
          have l4_ := (hH.blk (k := 4) rfl).lt
          have q7_0 := (hH.blk (k := 7) rfl).cell (j := 0) rfl
          have q7_1 := (hH.blk (k := 7) rfl).cell (j := 1) rfl
          have q7_2 := (hH.blk (k := 7) rfl).cell (j := 2) rfl
          have l7_ := (hH.blk (k := 7) rfl).lt
          have c_kr_0 := hH.ext.cell kr_0
          have c_kr_1 := hH.ext.cell kr_1
          have c_kr_2 := hH.ext.cell kr_2
          have c_kr_l := Nat.lt_of_lt_of_le kr_l hH.ext.size
          go_wp2_with fail
          clear q0_0 q0_1 q0_2 q0_3 q0_4 l0_ q4_0 q4_1 q4_2 l4_ q7_0 q7_1 q7_2 l7_ c_kr_0 c_kr_1 c_kr_2 c_kr_l
          refine (ints_sameN _ _ _ _ _ (by have h := (hH.parts (k := 6) rfl).1.ints; exact h) (hO.ext hH.ext) rfl).mono ?_; rintro ewn17 wn17 ⟨rfl, hwn17⟩
          replace hH : Held wN wn17 [aB (wN.heap.size) 29 [.int .i64 k, .int .i64 p, .int .i64 n, .slice aV m cV, .slice aO op.length cO], aI (.slice al AL.length cl) AL, aI (.slice ad AL.length cd) (AL.map dimOf), aT (.agg #[.slice p1 n1 d1, .slice p2 n2 d2, .slice p3 n3 d3]) AL (AL.map dimOf) ZX, aB (wn8.heap.size) 32 [.slice p1 n1 d1, .slice p2 n2 d2, .slice p3 n3 d3], aI (.slice aS x.length cs') x, aT (.agg #[.slice e1 op.length f1, .slice e2 m2 f2, .slice e3 m3 f3]) op (op.map dimOf) (flat RX), aB (wn13.heap.size) 32 [.slice e1 op.length f1, .slice e2 m2 f2, .slice e3 m3 f3], aT (.agg #[.slice b1 g1 a1, .slice b2 g2 a2, .slice b3 g3 a3]) (keepL op []) ((keepL op []).map dimOf) (S o).1] := hH.grow hwn17
          clear hwn17
          have HE := Lib.hid (E0.trans hH.ext); clear hH
          go_wp2
          go_ret
          exact ⟨rfl, HE.out⟩
end Go.Proofs.Ytpegckmagiaggaa
