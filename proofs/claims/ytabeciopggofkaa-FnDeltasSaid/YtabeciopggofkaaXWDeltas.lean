/- The law 'FnDeltas', walked. -/
import Derived.Deep.RegionHeld3
import Derived.Test.YtabeciopggofkaaXBase
import Derived.Test.YtabeciopggofkaaXDeltaT
import Derived.Test.YtabeciopggofkaaXDiagW
import Derived.Test.YtabeciopggofkaaXContrW
import Derived.Test.YtabeciopggofkaaXSumLW
import Derived.Test.YtabeciopggofkaaXRelabW
import Derived.Test.YtabeciopggofkaaXDrawE
import Derived.Test.YtabeciopggofkaaXPairsP
namespace Go.Proofs.Ytabeciopggofkaa
open Go.RowKit
set_option linter.unusedSimpArgs false
set_option linter.unusedVariables false

theorem TenS.labsP {w : World} {a b c : Value} {L D X : List Int} (h : TenS w (.agg #[a, b, c]) L D X) : IntS w a L := by
  obtain ⟨_, _, _, hv, h1, _, _⟩ := h.val
  simp at hv
  obtain ⟨rfl, rfl, rfl⟩ := hv
  exact h1
theorem TenS.dimsP {w : World} {a b c : Value} {L D X : List Int} (h : TenS w (.agg #[a, b, c]) L D X) : IntS w b D := by
  obtain ⟨_, _, _, hv, _, h2, _⟩ := h.val
  simp at hv
  obtain ⟨rfl, rfl, rfl⟩ := hv
  exact h2
theorem TenS.dataP {w : World} {a b c : Value} {L D X : List Int} (h : TenS w (.agg #[a, b, c]) L D X) : IntS w c X := by
  obtain ⟨_, _, _, hv, _, _, h3⟩ := h.val
  simp at hv
  obtain ⟨rfl, rfl, rfl⟩ := hv
  exact h3
theorem ints_sameE (v u : Value) (l m : List Int) (w : World) (hl : IntS w v l) (hm : IntS w u m) (e : l = m) : Calls Try.prog 27 #[v, u] w fun e w' => e = .returned (.bool true) ∧ Ext w w' :=
  (ints_same v u l m w hl hm e).mono fun _ _ ⟨he, hn⟩ => ⟨he, hn ▸ Ext.refl w⟩

set_option maxRecDepth 100000 in
set_option maxHeartbeats 8000000 in
theorem walkFnDeltas (v : Value) (l : List Int) (w : World) (hl : ByteS w v l) (hall : ∀ x ∈ l, 0 ≤ x ∧ x ≤ 255) :
    Calls Try.prog 8 #[v] w fun e w' => e = .returned (.bool true) ∧ Ext w w' := by
  obtain ⟨ca, cap, rfl, hc1, hc2⟩ := hl.val
  by_cases big : 1048576 < l.length
  · go_enter Try.func8, Try.ntmps8
    go_wp2
    go_ret
    exact ⟨rfl, (by repeat' (first | (with_reducible exact Ext.refl _) | (with_reducible assumption) | (with_reducible apply Ext.alloc) | (with_reducible apply Ext.drew) | (with_reducible apply Ext.drewN) | (refine Ext.setAt ?_ (by omega) _ _) | (refine Ext.trans ?_ (by assumption))))⟩
  have hC : Code w (.slice ca l.length cap) l := ⟨hl, hall, by omega⟩
  clear hall hl
  go_enter Try.func8, Try.ntmps8
  go_wp2_with fail
  refine (makeRing_any _ l 0 _ hC (by omega)).mono ?_; rintro e1 w1 ⟨k, p, n, rfl, hd, h1⟩
  have HR := Lib.hid (drawn_ok hd); clear hd
  go_wp2_with fail
  generalize hG2 : w1.alloc (.cells #[.int .i64 k, .int .i64 p, .int .i64 n] 24) = w2
  have h2 : Ext w1 w2 := by rw [← hG2]; exact (Ext.refl _).alloc _
  have Br2 : Blk w2 w1.heap.size 24 [.int .i64 k, .int .i64 p, .int .i64 n] := by rw [← hG2]; exact Blk.new w1 #[.int .i64 k, .int .i64 p, .int .i64 n] 24
  clear hG2
  have Br2 := Br2
  have ir0_2 := Br2.cell (j := 0) rfl
  have ir1_2 := Br2.cell (j := 1) rfl
  have ir2_2 := Br2.cell (j := 2) rfl
  have lr_2 := Br2.lt
  refine (makeTensor_any _ l 10 k p n HR.out _ (hC.ext (h1.trans h2)) (by omega)).mono ?_; rintro e3 w3 ⟨vTt, L, Dt, Xt, rfl, ot, dT, h3⟩
  obtain ⟨xs, rfl, rfl, hT⟩ := drawn_isT HR.out dT
  have hl3 : L.length ≤ 3 := by have := dT.labs.len; omega
  have hT6 := Lib.hid hT
  clear dT hT
  obtain ⟨tp1, tn1, tc1, tp2, tn2, tc2, tp3, tn3, tc3, rfl⟩ := ot.shape
  obtain ⟨_, _, hvv, _, _⟩ := ot.tens.labsP.val
  cases hvv
  obtain ⟨_, _, hvv, _, _⟩ := ot.tens.dimsP.val
  rw [List.length_map] at hvv
  cases hvv
  clear ir0_2 ir1_2 ir2_2 lr_2
  have Br3 := (Br2.ext h3)
  clear Br2
  have ir0_3 := Br3.cell (j := 0) rfl
  have ir1_3 := Br3.cell (j := 1) rfl
  have ir2_3 := Br3.cell (j := 2) rfl
  have lr_3 := Br3.lt
  rcases L with _ | ⟨x, L⟩
  · skip
    simp only [List.length_nil] at *
    go_wp2_with fail
    generalize hG4 : w3.alloc (.cells #[.slice tp1 0 tc1, .slice tp2 0 tc2, .slice tp3 tn3 tc3] 31) = w4
    have h4 : Ext w3 w4 := by rw [← hG4]; exact (Ext.refl _).alloc _
    have Bt4 : Blk w4 w3.heap.size 31 [.slice tp1 0 tc1, .slice tp2 0 tc2, .slice tp3 tn3 tc3] := by rw [← hG4]; exact Blk.new w3 #[.slice tp1 0 tc1, .slice tp2 0 tc2, .slice tp3 tn3 tc3] 31
    clear hG4
    clear ir0_3 ir1_3 ir2_3 lr_3
    have Br4 := (Br3.ext h4)
    clear Br3
    have ir0_4 := Br4.cell (j := 0) rfl
    have ir1_4 := Br4.cell (j := 1) rfl
    have ir2_4 := Br4.cell (j := 2) rfl
    have lr_4 := Br4.lt
    have Bt4 := Bt4
    have it0_4 := Bt4.cell (j := 0) rfl
    have it1_4 := Bt4.cell (j := 1) rfl
    have it2_4 := Bt4.cell (j := 2) rfl
    have lt_4 := Bt4.lt
    refine (delta0_any HR.out _).mono ?_; rintro e5 w5 ⟨vd0, rfl, od0, h5⟩
    obtain ⟨d0p1, d0n1, d0c1, d0p2, d0n2, d0c2, d0p3, d0n3, d0c3, rfl⟩ := od0.shape
    clear ir0_4 ir1_4 ir2_4 lr_4 it0_4 it1_4 it2_4 lt_4
    have Br5 := (Br4.ext h5)
    clear Br4
    have ir0_5 := Br5.cell (j := 0) rfl
    have ir1_5 := Br5.cell (j := 1) rfl
    have ir2_5 := Br5.cell (j := 2) rfl
    have lr_5 := Br5.lt
    have Bt5 := (Bt4.ext h5)
    clear Bt4
    have it0_5 := Bt5.cell (j := 0) rfl
    have it1_5 := Bt5.cell (j := 1) rfl
    have it2_5 := Bt5.cell (j := 2) rfl
    have lt_5 := Bt5.lt
    go_wp2_with fail
    generalize hG6 : w5.alloc (.cells #[.slice d0p1 d0n1 d0c1, .slice d0p2 d0n2 d0c2, .slice d0p3 d0n3 d0c3] 31) = w6
    have h6 : Ext w5 w6 := by rw [← hG6]; exact (Ext.refl _).alloc _
    have Bd06 : Blk w6 w5.heap.size 31 [.slice d0p1 d0n1 d0c1, .slice d0p2 d0n2 d0c2, .slice d0p3 d0n3 d0c3] := by rw [← hG6]; exact Blk.new w5 #[.slice d0p1 d0n1 d0c1, .slice d0p2 d0n2 d0c2, .slice d0p3 d0n3 d0c3] 31
    clear hG6
    clear ir0_5 ir1_5 ir2_5 lr_5 it0_5 it1_5 it2_5 lt_5
    have Br6 := (Br5.ext h6)
    clear Br5
    have ir0_6 := Br6.cell (j := 0) rfl
    have ir1_6 := Br6.cell (j := 1) rfl
    have ir2_6 := Br6.cell (j := 2) rfl
    have lr_6 := Br6.lt
    have Bt6 := (Bt5.ext h6)
    clear Bt5
    have it0_6 := Bt6.cell (j := 0) rfl
    have it1_6 := Bt6.cell (j := 1) rfl
    have it2_6 := Bt6.cell (j := 2) rfl
    have lt_6 := Bt6.lt
    have Bd06 := Bd06
    have id00_6 := Bd06.cell (j := 0) rfl
    have id01_6 := Bd06.cell (j := 1) rfl
    have id02_6 := Bd06.cell (j := 2) rfl
    have ld0_6 := Bd06.lt
    go_upto_region 7 with fail
    have h7 : Ext w6 w6.drew := (Ext.refl _).drew
    go_region_held3 (fun w' => w'.cell? ⟨w1.heap.size, 0, none⟩ = some (.int .i64 k) ∧ w'.cell? ⟨w1.heap.size, 1, none⟩ = some (.int .i64 p) ∧ w'.cell? ⟨w1.heap.size, 2, none⟩ = some (.int .i64 n) ∧ w'.cell? ⟨w5.heap.size, 0, none⟩ = some (.slice d0p1 d0n1 d0c1) ∧ w'.cell? ⟨w5.heap.size, 1, none⟩ = some (.slice d0p2 d0n2 d0c2) ∧ w'.cell? ⟨w5.heap.size, 2, none⟩ = some (.slice d0p3 d0n3 d0c3))
      (refine ⟨?_, ?_, ?_, ?_, ?_, ?_⟩ <;> first | (with_reducible assumption) | exact ((Ext.refl _).drew).cell (by with_reducible assumption) | exact ((Ext.refl _).alloc _).cell (by with_reducible assumption) | (simp [*]; done))
      (first | (go_at_call 35; (with_reducible refine (oneOf_impl k p n w6.drew).mono ?_); rintro e8 w8 ⟨vone, rfl, oone, h8⟩; rw [oneOf_yes HR.out] at oone; obtain ⟨aone, cone, rfl, _, _⟩ := oone.ints.val; have c8_0 := (h7.trans h8).cell ir0_6; have c8_1 := (h7.trans h8).cell ir1_6; have c8_2 := (h7.trans h8).cell ir2_6; have c8_3 := (h7.trans h8).cell id00_6; have c8_4 := (h7.trans h8).cell id01_6; have c8_5 := (h7.trans h8).cell id02_6) | (go_at_call 27; (with_reducible refine (ints_sameE _ _ _ _ w8 (od0.tens.ext (h6.trans (h7.trans h8))).dataP oone.ints rfl).mono ?_); rintro e9 w9 ⟨rfl, h9⟩; have c9_0 := (h7.trans (h8.trans h9)).cell ir0_6; have c9_1 := (h7.trans (h8.trans h9)).cell ir1_6; have c9_2 := (h7.trans (h8.trans h9)).cell ir2_6; have c9_3 := (h7.trans (h8.trans h9)).cell id00_6; have c9_4 := (h7.trans (h8.trans h9)).cell id01_6; have c9_5 := (h7.trans (h8.trans h9)).cell id02_6))
    go_wp2
    go_ret
    exact ⟨rfl, (h1.trans (h2.trans (h3.trans (h4.trans (h5.trans (h6.trans (h7.trans (h8.trans h9))))))))⟩
  · skip
    have hu := uniX hT6.out.sub hl3 x
    have UU := Lib.hid hu; clear hu
    have Tt := Lib.hid (isT_X hT6.out hl3 x)
    have hdims := dmX_map hT6.out.sub x
    rw [hdims] at ot; clear hdims
    have hx5 := u6_le hT6.out.sub (List.mem_cons_self .. : x ∈ x :: L)
    have hd3 := dmX_range x x
    have hdx : ∀ l, l = 50 ∨ l = 60 ∨ l = 70 → dmX x l = dmX x x := fun l hl => by have e := dmX_on hT6.out.sub x (List.mem_cons_self .. : x ∈ x :: L); rw [e]; unfold dmX; rw [if_pos hl]
    have HDX := Lib.hid hdx; clear hdx
    have hno : ∀ l, 6 ≤ l → l ∉ x :: L := fun l hl hm => by have := u6_le hT6.out.sub hm; omega
    have HNO := Lib.hid hno; clear hno
    have hmem : ∀ l, l = 50 ∨ l = 60 ∨ l = 70 → l ∈ UX (x :: L) := fun l hl => by unfold UX; apply List.mem_append_right; simp; omega
    have HMEM := Lib.hid hmem; clear hmem
    have HL3 := Lib.hid hl3; clear hl3
    simp only [List.length_cons] at *
    obtain ⟨b0, f0, y0, h00, hc0, hy0, _⟩ := ot.tens.labsP.get (i := 0) (by simp)
    cases h00
    obtain rfl : x = y0 := by simpa using hy0
    obtain ⟨b1, f1, y1, h01, hc1', hy1, _⟩ := ot.tens.dimsP.get (i := 0) (by simp)
    cases h01
    obtain ⟨d, hdd⟩ : ∃ d, dmX x x = d := ⟨_, rfl⟩
    obtain rfl : d = y1 := by rw [← hdd]; simpa using hy1
    rw [hdd] at hd3
    have HDD := Lib.hid hdd; clear hdd hy0 hy1
    rw [Nat.add_zero] at hc0 hc1'
    have hb0 : b0 < w3.heap.size := World.block_lt_of_cell? _ _ hc0
    have hb1 : b1 < w3.heap.size := World.block_lt_of_cell? _ _ hc1'
    go_wp2_with fail
    generalize hG104 : w3.alloc (.cells #[.slice (some ⟨b0, f0, none⟩) (L.length + 1) tc1, .slice (some ⟨b1, f1, none⟩) (L.length + 1) tc2, .slice tp3 tn3 tc3] 31) = w104
    have h104 : Ext w3 w104 := by rw [← hG104]; exact (Ext.refl _).alloc _
    have Bt104 : Blk w104 w3.heap.size 31 [.slice (some ⟨b0, f0, none⟩) (L.length + 1) tc1, .slice (some ⟨b1, f1, none⟩) (L.length + 1) tc2, .slice tp3 tn3 tc3] := by rw [← hG104]; exact Blk.new w3 #[.slice (some ⟨b0, f0, none⟩) (L.length + 1) tc1, .slice (some ⟨b1, f1, none⟩) (L.length + 1) tc2, .slice tp3 tn3 tc3] 31
    clear hG104
    clear ir0_3 ir1_3 ir2_3 lr_3
    have Br104 := (Br3.ext h104)
    clear Br3
    have ir0_104 := Br104.cell (j := 0) rfl
    have ir1_104 := Br104.cell (j := 1) rfl
    have ir2_104 := Br104.cell (j := 2) rfl
    have lr_104 := Br104.lt
    have Bt104 := Bt104
    have it0_104 := Bt104.cell (j := 0) rfl
    have it1_104 := Bt104.cell (j := 1) rfl
    have it2_104 := Bt104.cell (j := 2) rfl
    have lt_104 := Bt104.lt
    have S2 := Lib.hid (subX hT6.out.sub (by have := HL3.out; simpa using this) (M := [x, 50]) (by have := hx5; simp; omega) (by simp))
    have S3 := Lib.hid (subX hT6.out.sub (by have := HL3.out; simpa using this) (M := [x, 60, 70]) (by have := hx5; simp; omega) (by simp))
    have D2 : Hid (∀ l ∈ [x, 50], dmX x l = d) := Lib.hid (by intro l hl; simp at hl; rcases hl with rfl | rfl; exact HDD.out; rw [HDX.out _ (by simp)]; exact HDD.out)
    have D3 : Hid (∀ l ∈ [x, 60, 70], dmX x l = d) := Lib.hid (by intro l hl; simp at hl; rcases hl with rfl | rfl | rfl; exact HDD.out; rw [HDX.out _ (by simp)]; exact HDD.out; rw [HDX.out _ (by simp)]; exact HDD.out)
    have id_104 := (h104).cell hc1'
    have hn0_0_0 : w1.heap.size ≠ w104.heap.size := (by omega)
    have hn0_1_0 : w1.heap.size ≠ w104.heap.size + 1 := (by omega)
    have hn0_0_1 : w3.heap.size ≠ w104.heap.size := (by omega)
    have hn0_1_1 : w3.heap.size ≠ w104.heap.size + 1 := (by omega)
    have hn0_0_2 : b1 ≠ w104.heap.size := (by omega)
    have hn0_1_2 : b1 ≠ w104.heap.size + 1 := (by omega)
    go_upto_region 9 with fail
    go_cut [8, 9] from 25 (fun q ok wx => ∃ bu dp1 dn1 dc1 dp2 dn2 dc2 dp3 dn3 dc3, q = .pointer (some ⟨bu, 0, none⟩) ∧ ok = .bool true ∧ Blk wx bu 31 [.slice dp1 dn1 dc1, .slice dp2 dn2 dc2, .slice dp3 dn3 dc3] ∧ Ext w104 wx ∧ OwnT wx w104.heap.size (.agg #[.slice dp1 dn1 dc1, .slice dp2 dn2 dc2, .slice dp3 dn3 dc3]) [x, 50] ([x, 50].map (dmX x)) (flat (deltaXs HR.out (dmX x) [x, 50] x)))
    case first =>
      as_aux_lemma =>
        refine wp_region_held_drew (S := fun w' => w'.cell? ⟨w1.heap.size, 0, none⟩ = some (.int .i64 k) ∧ w'.cell? ⟨w1.heap.size, 1, none⟩ = some (.int .i64 p) ∧ w'.cell? ⟨w1.heap.size, 2, none⟩ = some (.int .i64 n) ∧ w'.cell? ⟨w3.heap.size, 0, none⟩ = some (.slice (some ⟨b0, f0, none⟩) (L.length + 1) tc1) ∧ w'.cell? ⟨w3.heap.size, 1, none⟩ = some (.slice (some ⟨b1, f1, none⟩) (L.length + 1) tc2) ∧ w'.cell? ⟨w3.heap.size, 2, none⟩ = some (.slice tp3 tn3 tc3) ∧ w'.cell? ⟨b1, f1, none⟩ = some (.int .i64 d)) (by kernel_rfl) ?_ (fun hHeld => ?_)
        · (with_reducible exact ⟨((Ext.refl w104).drew).cell ir0_104, ((Ext.refl w104).drew).cell ir1_104, ((Ext.refl w104).drew).cell ir2_104, ((Ext.refl w104).drew).cell it0_104, ((Ext.refl w104).drew).cell it1_104, ((Ext.refl w104).drew).cell it2_104, ((Ext.refl w104).drew).cell id_104⟩)
        refine wpAnyH_take (i := 0) (v := ?_) rfl (by kernel_rfl) (by kernel_rfl) (by kernel_rfl) (fun _ _ _ h => h) (Or.inl ⟨by rfl, ?_⟩) (by assumption) ?_
        rotate_left
        · intro w hSw; (try dsimp only at hSw); go_simp; (try with_reducible rfl)
        (try go_simp)
        refine wpAnyH_take (i := 1) (v := ?_) rfl (by kernel_rfl) (by kernel_rfl) (by kernel_rfl) (fun _ _ _ h => h) (Or.inl ⟨by rfl, ?_⟩) (by assumption) ?_
        rotate_left
        · intro w hSw; (try dsimp only at hSw); go_simp; (try with_reducible rfl)
        (try go_simp)
        refine wpAnyH_take (i := 3) (v := ?_) rfl (by kernel_rfl) (by kernel_rfl) (by kernel_rfl) (fun _ _ _ h => h) (Or.inl ⟨by rfl, ?_⟩) (by assumption) ?_
        rotate_left
        · intro w hSw; (try dsimp only at hSw); go_simp; (try with_reducible rfl)
        (try go_simp)
        refine wpAnyH_take (i := 4) (v := ?_) rfl (by kernel_rfl) (by kernel_rfl) (by kernel_rfl) (fun _ _ _ h => h) (Or.inl ⟨by rfl, ?_⟩) (by assumption) ?_
        rotate_left
        · intro w hSw; (try dsimp only at hSw); go_simp; (try with_reducible rfl)
        (try go_simp)
        refine wpAnyH_take (i := 5) (v := ?_) rfl (by kernel_rfl) (by kernel_rfl) (by kernel_rfl) (fun _ _ _ h => h) (Or.inl ⟨by rfl, ?_⟩) (by assumption) ?_
        rotate_left
        · intro w hSw; (try dsimp only at hSw); go_simp; (try with_reducible rfl)
        (try go_simp)
        refine wpAnyH_take (i := 6) (v := ?_) rfl (by kernel_rfl) (by kernel_rfl) (by kernel_rfl) (fun _ _ _ h => h) (Or.inl ⟨by rfl, ?_⟩) (by assumption) ?_
        rotate_left
        · intro w hSw; (try dsimp only at hSw); go_simp; (try with_reducible rfl)
        (try go_simp)
        refine wpAnyH_ready (rs := [2, 11]) (by kernel_rfl) (by simp) ?_
        refine AllReadyH.cons rfl (fun Kc hKc => ?_) ?_
        · skip
          go_simp
          refine hKc.out _ _ ?_ (fun hHeld => ?_) <;> clear hKc Kc
          · (with_reducible exact ⟨(((Ext.refl w104).alloc _).drew).cell ir0_104, (((Ext.refl w104).alloc _).drew).cell ir1_104, (((Ext.refl w104).alloc _).drew).cell ir2_104, (((Ext.refl w104).alloc _).drew).cell it0_104, (((Ext.refl w104).alloc _).drew).cell it1_104, (((Ext.refl w104).alloc _).drew).cell it2_104, (((Ext.refl w104).alloc _).drew).cell id_104⟩)
          refine wpAnyH_ready (rs := [7, 11]) (by kernel_rfl) (by simp) ?_
          refine AllReadyH.cons rfl (fun Kc hKc => ?_) ?_
          · skip
            go_simp; go_at_call 34
            have Eq0 : Ext w104 (w104.alloc (.cells #[.int .i64 x, .int .i64 50] 3)).drew := (((Ext.refl w104).alloc _).drew); have su0 : IntS (w104.alloc (.cells #[.int .i64 x, .int .i64 50] 3)).drew (.slice (some ⟨w104.heap.size, 0, none⟩) 2 2) [x, 50] := ((OwnI.of (B := 0) (l := [x, 50]) (Nat.zero_le _) (Blk.newB (w := w104) (c := #[.int .i64 x, .int .i64 50]) (b := w104.heap.size) (by simp)) (by simp [maxLen])).ints.ext ((Ext.refl _).drew)); (with_reducible refine (deltaT_any HR.out UU.out S2.out D2.out hd3.1 (by omega) (List.mem_cons_self .. : x ∈ [x, 50]) _ (w104.alloc (.cells #[.int .i64 x, .int .i64 50] 3)).drew su0).mono ?_); rintro ed1 wd1 ⟨v1, rfl, od, hd1⟩; have Ed1 : Ext w104 wd1 := Eq0.trans hd1; have xd1_0 := Ed1.cell ir0_104; have xd1_1 := Ed1.cell ir1_104; have xd1_2 := Ed1.cell ir2_104; have xd1_3 := Ed1.cell it0_104; have xd1_4 := Ed1.cell it1_104; have xd1_5 := Ed1.cell it2_104; have xd1_6 := Ed1.cell id_104; have hd1zs := Ed1.size; obtain ⟨dp1, dn1, dc1, dp2, dn2, dc2, dp3, dn3, dc3, rfl⟩ := od.shape; have o4m := od.mono (B' := w104.heap.size) Eq0.size; have hn1_0_0 : w1.heap.size ≠ wd1.heap.size := (by omega); have hn1_1_0 : w1.heap.size ≠ wd1.heap.size + 1 := (by omega); have hn1_0_1 : w3.heap.size ≠ wd1.heap.size := (by omega); have hn1_1_1 : w3.heap.size ≠ wd1.heap.size + 1 := (by omega); have hn1_0_2 : b1 ≠ wd1.heap.size := (by omega); have hn1_1_2 : b1 ≠ wd1.heap.size + 1 := (by omega)
            (try go_simp)
            refine hKc.out _ _ ?_ (fun hHeld => ?_) <;> clear hKc Kc
            · (with_reducible exact ⟨xd1_0, xd1_1, xd1_2, xd1_3, xd1_4, xd1_5, xd1_6⟩)
            refine wpAnyH_take (i := 8) (v := ?_) rfl (by kernel_rfl) (by kernel_rfl) (by kernel_rfl) (fun _ _ _ h => h) (Or.inl ⟨by rfl, ?_⟩) (by assumption) ?_
            rotate_left
            · intro w hSw; (try dsimp only at hSw); go_simp; (try with_reducible rfl)
            (try go_simp)
            refine wpAnyH_take (i := 9) (v := ?_) rfl (by kernel_rfl) (by kernel_rfl) (by kernel_rfl) (fun _ _ _ h => h) (Or.inl ⟨by rfl, ?_⟩) (by assumption) ?_
            rotate_left
            · intro w hSw; (try dsimp only at hSw); go_simp; (try with_reducible rfl)
            (try go_simp)
            refine wpAnyH_take (i := 10) (v := ?_) rfl (by kernel_rfl) (by kernel_rfl) (by kernel_rfl) (fun _ _ _ h => h) (Or.inl ⟨by rfl, ?_⟩) (by assumption) ?_
            rotate_left
            · intro w hSw; (try dsimp only at hSw); go_simp; (try with_reducible rfl)
            (try go_simp)
            refine wpAnyH_ready (rs := [11]) (by kernel_rfl) (by simp) ?_
            refine AllReadyH.cons rfl (fun Kc hKc => ?_) AllReadyH.nil
            go_simp
            refine hKc.out _ _ ?_ (fun hHeld => ?_) <;> clear hKc Kc
            · (with_reducible exact ⟨((Ext.refl wd1).alloc _).cell xd1_0, ((Ext.refl wd1).alloc _).cell xd1_1, ((Ext.refl wd1).alloc _).cell xd1_2, ((Ext.refl wd1).alloc _).cell xd1_3, ((Ext.refl wd1).alloc _).cell xd1_4, ((Ext.refl wd1).alloc _).cell xd1_5, ((Ext.refl wd1).alloc _).cell xd1_6⟩)
            refine wpAnyH_ready (rs := [12]) (by kernel_rfl) (by simp) ?_
            refine AllReadyH.cons rfl (fun Kc hKc => ?_) AllReadyH.nil
            go_simp
            refine hKc.out _ _ ?_ (fun hHeld => ?_) <;> clear hKc Kc
            · (with_reducible exact ⟨(Ed1.alloc _).cell ir0_104, (Ed1.alloc _).cell ir1_104, (Ed1.alloc _).cell ir2_104, (Ed1.alloc _).cell it0_104, (Ed1.alloc _).cell it1_104, (Ed1.alloc _).cell it2_104, (Ed1.alloc _).cell id_104⟩)
            refine wpAnyH_ready (rs := [13]) (by kernel_rfl) (by simp) ?_
            refine AllReadyH.cons rfl (fun Kc hKc => ?_) AllReadyH.nil
            go_simp
            refine hKc.out _ _ ?_ (fun hHeld => ?_) <;> clear hKc Kc
            · (with_reducible exact ⟨(Ed1.alloc _).cell ir0_104, (Ed1.alloc _).cell ir1_104, (Ed1.alloc _).cell ir2_104, (Ed1.alloc _).cell it0_104, (Ed1.alloc _).cell it1_104, (Ed1.alloc _).cell it2_104, (Ed1.alloc _).cell id_104⟩)
            refine wpAnyH_done (by kernel_rfl) ?_ _
            go_wp2_with fail
            go_meet
            exact ⟨wd1.heap.size, dp1, dn1, dc1, dp2, dn2, dc2, dp3, dn3, dc3, rfl, rfl, Blk.new wd1 #[.slice dp1 dn1 dc1, .slice dp2 dn2 dc2, .slice dp3 dn3 dc3] _, Ed1.alloc _, o4m.ext ((Ext.refl _).alloc _)⟩
          refine AllReadyH.cons rfl (fun Kc hKc => ?_) AllReadyH.nil
          go_simp
          refine hKc.out _ _ ?_ (fun hHeld => ?_) <;> clear hKc Kc
          · (with_reducible exact ⟨((((Ext.refl w104).alloc _).alloc _).drew).cell ir0_104, ((((Ext.refl w104).alloc _).alloc _).drew).cell ir1_104, ((((Ext.refl w104).alloc _).alloc _).drew).cell ir2_104, ((((Ext.refl w104).alloc _).alloc _).drew).cell it0_104, ((((Ext.refl w104).alloc _).alloc _).drew).cell it1_104, ((((Ext.refl w104).alloc _).alloc _).drew).cell it2_104, ((((Ext.refl w104).alloc _).alloc _).drew).cell id_104⟩)
          refine wpAnyH_ready (rs := [7]) (by kernel_rfl) (by simp) ?_
          refine AllReadyH.cons rfl (fun Kc hKc => ?_) AllReadyH.nil
          go_simp; go_at_call 34
          have Eq0 : Ext w104 ((w104.alloc (.cells #[.int .i64 x, .int .i64 50] 3)).alloc (.cells #[.slice none 0 0, .slice none 0 0, .slice none 0 0] 31)).drew := ((((Ext.refl w104).alloc _).alloc _).drew); have su0 : IntS ((w104.alloc (.cells #[.int .i64 x, .int .i64 50] 3)).alloc (.cells #[.slice none 0 0, .slice none 0 0, .slice none 0 0] 31)).drew (.slice (some ⟨w104.heap.size, 0, none⟩) 2 2) [x, 50] := (((OwnI.of (B := 0) (l := [x, 50]) (Nat.zero_le _) (Blk.newB (w := w104) (c := #[.int .i64 x, .int .i64 50]) (b := w104.heap.size) (by simp)) (by simp [maxLen])).ints.ext ((Ext.refl _).alloc _)).ext ((Ext.refl _).drew)); (with_reducible refine (deltaT_any HR.out UU.out S2.out D2.out hd3.1 (by omega) (List.mem_cons_self .. : x ∈ [x, 50]) _ ((w104.alloc (.cells #[.int .i64 x, .int .i64 50] 3)).alloc (.cells #[.slice none 0 0, .slice none 0 0, .slice none 0 0] 31)).drew su0).mono ?_); rintro ed1 wd1 ⟨v1, rfl, od, hd1⟩; have Ed1 : Ext w104 wd1 := Eq0.trans hd1; have xd1_0 := Ed1.cell ir0_104; have xd1_1 := Ed1.cell ir1_104; have xd1_2 := Ed1.cell ir2_104; have xd1_3 := Ed1.cell it0_104; have xd1_4 := Ed1.cell it1_104; have xd1_5 := Ed1.cell it2_104; have xd1_6 := Ed1.cell id_104; have hd1zs := Ed1.size; have Y1 : Blk wd1 (w104.heap.size + 1) 31 [.slice none 0 0, .slice none 0 0, .slice none 0 0] := ((Blk.newB (w := (w104.alloc (.cells #[.int .i64 x, .int .i64 50] 3))) (c := #[.slice none 0 0, .slice none 0 0, .slice none 0 0]) (b := w104.heap.size + 1) (by simp)).ext ((Ext.refl _).drew)).ext hd1; have ltY1 := Y1.lt; obtain ⟨dp1, dn1, dc1, dp2, dn2, dc2, dp3, dn3, dc3, rfl⟩ := od.shape; have o4m := od.mono (B' := w104.heap.size) Eq0.size; have o5m := od.mono (B' := w104.heap.size + 1 + 1) (by first | (simp; done) | (simp; omega) | omega); have fb_0 := Y1.free 0; have yb_0 := Y1.cell (j := 0) rfl; have fb_1 := Y1.free 1; have yb_1 := Y1.cell (j := 1) rfl; have fb_2 := Y1.free 2; have yb_2 := Y1.cell (j := 2) rfl; have ylb := Y1.lt; have hn1_0_0 : w1.heap.size ≠ wd1.heap.size := (by omega); have hn1_1_0 : w1.heap.size ≠ wd1.heap.size + 1 := (by omega); have hn1_0_1 : w3.heap.size ≠ wd1.heap.size := (by omega); have hn1_1_1 : w3.heap.size ≠ wd1.heap.size + 1 := (by omega); have hn1_0_2 : b1 ≠ wd1.heap.size := (by omega); have hn1_1_2 : b1 ≠ wd1.heap.size + 1 := (by omega)
          (try go_simp)
          refine hKc.out _ _ ?_ (fun hHeld => ?_) <;> clear hKc Kc
          · (with_reducible exact ⟨xd1_0, xd1_1, xd1_2, xd1_3, xd1_4, xd1_5, xd1_6⟩)
          refine wpAnyH_take (i := 8) (v := ?_) rfl (by kernel_rfl) (by kernel_rfl) (by kernel_rfl) (fun _ _ _ h => h) (Or.inl ⟨by rfl, ?_⟩) (by assumption) ?_
          rotate_left
          · intro w hSw; (try dsimp only at hSw); go_simp; (try with_reducible rfl)
          (try go_simp)
          refine wpAnyH_take (i := 9) (v := ?_) rfl (by kernel_rfl) (by kernel_rfl) (by kernel_rfl) (fun _ _ _ h => h) (Or.inl ⟨by rfl, ?_⟩) (by assumption) ?_
          rotate_left
          · intro w hSw; (try dsimp only at hSw); go_simp; (try with_reducible rfl)
          (try go_simp)
          refine wpAnyH_take (i := 10) (v := ?_) rfl (by kernel_rfl) (by kernel_rfl) (by kernel_rfl) (fun _ _ _ h => h) (Or.inl ⟨by rfl, ?_⟩) (by assumption) ?_
          rotate_left
          · intro w hSw; (try dsimp only at hSw); go_simp; (try with_reducible rfl)
          (try go_simp)
          refine wpAnyH_ready (rs := [12]) (by kernel_rfl) (by simp) ?_
          refine AllReadyH.cons rfl (fun Kc hKc => ?_) AllReadyH.nil
          go_simp
          refine hKc.out _ _ ?_ (fun hHeld => ?_) <;> clear hKc Kc
          · (with_reducible exact ⟨grown_cell (b := w104.heap.size + 1) (grown_setCell (grown_setCell (grown_setCell (grown_refl _ _) _ _) _ _) _ _) hn0_1_0 xd1_0, grown_cell (b := w104.heap.size + 1) (grown_setCell (grown_setCell (grown_setCell (grown_refl _ _) _ _) _ _) _ _) hn0_1_0 xd1_1, grown_cell (b := w104.heap.size + 1) (grown_setCell (grown_setCell (grown_setCell (grown_refl _ _) _ _) _ _) _ _) hn0_1_0 xd1_2, grown_cell (b := w104.heap.size + 1) (grown_setCell (grown_setCell (grown_setCell (grown_refl _ _) _ _) _ _) _ _) hn0_1_1 xd1_3, grown_cell (b := w104.heap.size + 1) (grown_setCell (grown_setCell (grown_setCell (grown_refl _ _) _ _) _ _) _ _) hn0_1_1 xd1_4, grown_cell (b := w104.heap.size + 1) (grown_setCell (grown_setCell (grown_setCell (grown_refl _ _) _ _) _ _) _ _) hn0_1_1 xd1_5, grown_cell (b := w104.heap.size + 1) (grown_setCell (grown_setCell (grown_setCell (grown_refl _ _) _ _) _ _) _ _) hn0_1_2 xd1_6⟩)
          refine wpAnyH_ready (rs := [13]) (by kernel_rfl) (by simp) ?_
          refine AllReadyH.cons rfl (fun Kc hKc => ?_) AllReadyH.nil
          go_simp
          refine hKc.out _ _ ?_ (fun hHeld => ?_) <;> clear hKc Kc
          · (with_reducible exact ⟨grown_cell (b := w104.heap.size + 1) (grown_setCell (grown_setCell (grown_setCell (grown_refl _ _) _ _) _ _) _ _) hn0_1_0 xd1_0, grown_cell (b := w104.heap.size + 1) (grown_setCell (grown_setCell (grown_setCell (grown_refl _ _) _ _) _ _) _ _) hn0_1_0 xd1_1, grown_cell (b := w104.heap.size + 1) (grown_setCell (grown_setCell (grown_setCell (grown_refl _ _) _ _) _ _) _ _) hn0_1_0 xd1_2, grown_cell (b := w104.heap.size + 1) (grown_setCell (grown_setCell (grown_setCell (grown_refl _ _) _ _) _ _) _ _) hn0_1_1 xd1_3, grown_cell (b := w104.heap.size + 1) (grown_setCell (grown_setCell (grown_setCell (grown_refl _ _) _ _) _ _) _ _) hn0_1_1 xd1_4, grown_cell (b := w104.heap.size + 1) (grown_setCell (grown_setCell (grown_setCell (grown_refl _ _) _ _) _ _) _ _) hn0_1_1 xd1_5, grown_cell (b := w104.heap.size + 1) (grown_setCell (grown_setCell (grown_setCell (grown_refl _ _) _ _) _ _) _ _) hn0_1_2 xd1_6⟩)
          refine wpAnyH_done (by kernel_rfl) ?_ _
          go_wp2_with fail
          go_meet
          exact ⟨w104.heap.size + 1, dp1, dn1, dc1, dp2, dn2, dc2, dp3, dn3, dc3, rfl, rfl, (((Y1.set 0 (.slice dp1 dn1 dc1)).set 1 (.slice dp2 dn2 dc2)).set 2 (.slice dp3 dn3 dc3)), (((Ed1.setAt (by omega) _ _).setAt (by omega) _ _).setAt (by omega) _ _), (((o5m.setBelow (p := ⟨w104.heap.size + 1, 0, none⟩) (Nat.lt_succ_self _) _).setBelow (p := ⟨w104.heap.size + 1, 1, none⟩) (Nat.lt_succ_self _) _).setBelow (p := ⟨w104.heap.size + 1, 2, none⟩) (Nat.lt_succ_self _) _).mono (by omega)⟩
        refine AllReadyH.cons rfl (fun Kc hKc => ?_) AllReadyH.nil
        go_simp
        refine hKc.out _ _ ?_ (fun hHeld => ?_) <;> clear hKc Kc
        · (with_reducible exact ⟨(((Ext.refl w104).alloc _).drew).cell ir0_104, (((Ext.refl w104).alloc _).drew).cell ir1_104, (((Ext.refl w104).alloc _).drew).cell ir2_104, (((Ext.refl w104).alloc _).drew).cell it0_104, (((Ext.refl w104).alloc _).drew).cell it1_104, (((Ext.refl w104).alloc _).drew).cell it2_104, (((Ext.refl w104).alloc _).drew).cell id_104⟩)
        refine wpAnyH_ready (rs := [2]) (by kernel_rfl) (by simp) ?_
        refine AllReadyH.cons rfl (fun Kc hKc => ?_) AllReadyH.nil
        go_simp
        refine hKc.out _ _ ?_ (fun hHeld => ?_) <;> clear hKc Kc
        · (with_reducible exact ⟨((((Ext.refl w104).alloc _).alloc _).drew).cell ir0_104, ((((Ext.refl w104).alloc _).alloc _).drew).cell ir1_104, ((((Ext.refl w104).alloc _).alloc _).drew).cell ir2_104, ((((Ext.refl w104).alloc _).alloc _).drew).cell it0_104, ((((Ext.refl w104).alloc _).alloc _).drew).cell it1_104, ((((Ext.refl w104).alloc _).alloc _).drew).cell it2_104, ((((Ext.refl w104).alloc _).alloc _).drew).cell id_104⟩)
        refine wpAnyH_ready (rs := [7]) (by kernel_rfl) (by simp) ?_
        refine AllReadyH.cons rfl (fun Kc hKc => ?_) AllReadyH.nil
        go_simp; go_at_call 34
        have Eq0 : Ext w104 ((w104.alloc (.cells #[.slice none 0 0, .slice none 0 0, .slice none 0 0] 31)).alloc (.cells #[.int .i64 x, .int .i64 50] 3)).drew := ((((Ext.refl w104).alloc _).alloc _).drew); have su0 : IntS ((w104.alloc (.cells #[.slice none 0 0, .slice none 0 0, .slice none 0 0] 31)).alloc (.cells #[.int .i64 x, .int .i64 50] 3)).drew (.slice (some ⟨w104.heap.size + 1, 0, none⟩) 2 2) [x, 50] := ((OwnI.of (B := 0) (l := [x, 50]) (Nat.zero_le _) (Blk.newB (w := (w104.alloc (.cells #[.slice none 0 0, .slice none 0 0, .slice none 0 0] 31))) (c := #[.int .i64 x, .int .i64 50]) (b := w104.heap.size + 1) (by simp)) (by simp [maxLen])).ints.ext ((Ext.refl _).drew)); (with_reducible refine (deltaT_any HR.out UU.out S2.out D2.out hd3.1 (by omega) (List.mem_cons_self .. : x ∈ [x, 50]) _ ((w104.alloc (.cells #[.slice none 0 0, .slice none 0 0, .slice none 0 0] 31)).alloc (.cells #[.int .i64 x, .int .i64 50] 3)).drew su0).mono ?_); rintro ed1 wd1 ⟨v1, rfl, od, hd1⟩; have Ed1 : Ext w104 wd1 := Eq0.trans hd1; have xd1_0 := Ed1.cell ir0_104; have xd1_1 := Ed1.cell ir1_104; have xd1_2 := Ed1.cell ir2_104; have xd1_3 := Ed1.cell it0_104; have xd1_4 := Ed1.cell it1_104; have xd1_5 := Ed1.cell it2_104; have xd1_6 := Ed1.cell id_104; have hd1zs := Ed1.size; have Y1 : Blk wd1 (w104.heap.size) 31 [.slice none 0 0, .slice none 0 0, .slice none 0 0] := (((Blk.newB (w := w104) (c := #[.slice none 0 0, .slice none 0 0, .slice none 0 0]) (b := w104.heap.size) (by simp)).ext ((Ext.refl _).alloc _)).ext ((Ext.refl _).drew)).ext hd1; have ltY1 := Y1.lt; obtain ⟨dp1, dn1, dc1, dp2, dn2, dc2, dp3, dn3, dc3, rfl⟩ := od.shape; have o4m := od.mono (B' := w104.heap.size) Eq0.size; have o5m := od.mono (B' := w104.heap.size + 1) (by first | (simp; done) | (simp; omega) | omega); have fb_0 := Y1.free 0; have yb_0 := Y1.cell (j := 0) rfl; have fb_1 := Y1.free 1; have yb_1 := Y1.cell (j := 1) rfl; have fb_2 := Y1.free 2; have yb_2 := Y1.cell (j := 2) rfl; have ylb := Y1.lt; have hn1_0_0 : w1.heap.size ≠ wd1.heap.size := (by omega); have hn1_1_0 : w1.heap.size ≠ wd1.heap.size + 1 := (by omega); have hn1_0_1 : w3.heap.size ≠ wd1.heap.size := (by omega); have hn1_1_1 : w3.heap.size ≠ wd1.heap.size + 1 := (by omega); have hn1_0_2 : b1 ≠ wd1.heap.size := (by omega); have hn1_1_2 : b1 ≠ wd1.heap.size + 1 := (by omega)
        (try go_simp)
        refine hKc.out _ _ ?_ (fun hHeld => ?_) <;> clear hKc Kc
        · (with_reducible exact ⟨xd1_0, xd1_1, xd1_2, xd1_3, xd1_4, xd1_5, xd1_6⟩)
        refine wpAnyH_take (i := 8) (v := ?_) rfl (by kernel_rfl) (by kernel_rfl) (by kernel_rfl) (fun _ _ _ h => h) (Or.inl ⟨by rfl, ?_⟩) (by assumption) ?_
        rotate_left
        · intro w hSw; (try dsimp only at hSw); go_simp; (try with_reducible rfl)
        (try go_simp)
        refine wpAnyH_take (i := 9) (v := ?_) rfl (by kernel_rfl) (by kernel_rfl) (by kernel_rfl) (fun _ _ _ h => h) (Or.inl ⟨by rfl, ?_⟩) (by assumption) ?_
        rotate_left
        · intro w hSw; (try dsimp only at hSw); go_simp; (try with_reducible rfl)
        (try go_simp)
        refine wpAnyH_take (i := 10) (v := ?_) rfl (by kernel_rfl) (by kernel_rfl) (by kernel_rfl) (fun _ _ _ h => h) (Or.inl ⟨by rfl, ?_⟩) (by assumption) ?_
        rotate_left
        · intro w hSw; (try dsimp only at hSw); go_simp; (try with_reducible rfl)
        (try go_simp)
        refine wpAnyH_ready (rs := [12]) (by kernel_rfl) (by simp) ?_
        refine AllReadyH.cons rfl (fun Kc hKc => ?_) AllReadyH.nil
        go_simp
        refine hKc.out _ _ ?_ (fun hHeld => ?_) <;> clear hKc Kc
        · (with_reducible exact ⟨grown_cell (b := w104.heap.size) (grown_setCell (grown_setCell (grown_setCell (grown_refl _ _) _ _) _ _) _ _) hn0_0_0 xd1_0, grown_cell (b := w104.heap.size) (grown_setCell (grown_setCell (grown_setCell (grown_refl _ _) _ _) _ _) _ _) hn0_0_0 xd1_1, grown_cell (b := w104.heap.size) (grown_setCell (grown_setCell (grown_setCell (grown_refl _ _) _ _) _ _) _ _) hn0_0_0 xd1_2, grown_cell (b := w104.heap.size) (grown_setCell (grown_setCell (grown_setCell (grown_refl _ _) _ _) _ _) _ _) hn0_0_1 xd1_3, grown_cell (b := w104.heap.size) (grown_setCell (grown_setCell (grown_setCell (grown_refl _ _) _ _) _ _) _ _) hn0_0_1 xd1_4, grown_cell (b := w104.heap.size) (grown_setCell (grown_setCell (grown_setCell (grown_refl _ _) _ _) _ _) _ _) hn0_0_1 xd1_5, grown_cell (b := w104.heap.size) (grown_setCell (grown_setCell (grown_setCell (grown_refl _ _) _ _) _ _) _ _) hn0_0_2 xd1_6⟩)
        refine wpAnyH_ready (rs := [13]) (by kernel_rfl) (by simp) ?_
        refine AllReadyH.cons rfl (fun Kc hKc => ?_) AllReadyH.nil
        go_simp
        refine hKc.out _ _ ?_ (fun hHeld => ?_) <;> clear hKc Kc
        · (with_reducible exact ⟨grown_cell (b := w104.heap.size) (grown_setCell (grown_setCell (grown_setCell (grown_refl _ _) _ _) _ _) _ _) hn0_0_0 xd1_0, grown_cell (b := w104.heap.size) (grown_setCell (grown_setCell (grown_setCell (grown_refl _ _) _ _) _ _) _ _) hn0_0_0 xd1_1, grown_cell (b := w104.heap.size) (grown_setCell (grown_setCell (grown_setCell (grown_refl _ _) _ _) _ _) _ _) hn0_0_0 xd1_2, grown_cell (b := w104.heap.size) (grown_setCell (grown_setCell (grown_setCell (grown_refl _ _) _ _) _ _) _ _) hn0_0_1 xd1_3, grown_cell (b := w104.heap.size) (grown_setCell (grown_setCell (grown_setCell (grown_refl _ _) _ _) _ _) _ _) hn0_0_1 xd1_4, grown_cell (b := w104.heap.size) (grown_setCell (grown_setCell (grown_setCell (grown_refl _ _) _ _) _ _) _ _) hn0_0_1 xd1_5, grown_cell (b := w104.heap.size) (grown_setCell (grown_setCell (grown_setCell (grown_refl _ _) _ _) _ _) _ _) hn0_0_2 xd1_6⟩)
        refine wpAnyH_done (by kernel_rfl) ?_ _
        go_wp2_with fail
        go_meet
        exact ⟨w104.heap.size, dp1, dn1, dc1, dp2, dn2, dc2, dp3, dn3, dc3, rfl, rfl, (((Y1.set 0 (.slice dp1 dn1 dc1)).set 1 (.slice dp2 dn2 dc2)).set 2 (.slice dp3 dn3 dc3)), (((Ed1.setAt (Nat.le_refl _) _ _).setAt (Nat.le_refl _) _ _).setAt (Nat.le_refl _) _ _), (((o5m.setBelow (p := ⟨w104.heap.size, 0, none⟩) (Nat.lt_succ_self _) _).setBelow (p := ⟨w104.heap.size, 1, none⟩) (Nat.lt_succ_self _) _).setBelow (p := ⟨w104.heap.size, 2, none⟩) (Nat.lt_succ_self _) _).mono (by omega)⟩
    obtain ⟨w105, rfl⟩ : ∃ x, x = wc := ⟨wc, rfl⟩
    obtain ⟨bu105, dp1, dn1, dc1, dp2, dn2, dc2, dp3, dn3, dc3, rfl, rfl, Bd105, h105, od⟩ := hcut
    clear ir0_104 ir1_104 ir2_104 lr_104 it0_104 it1_104 it2_104 lt_104
    have Br105 := (Br104.ext h105)
    clear Br104
    have ir0_105 := Br105.cell (j := 0) rfl
    have ir1_105 := Br105.cell (j := 1) rfl
    have ir2_105 := Br105.cell (j := 2) rfl
    have lr_105 := Br105.lt
    have Bt105 := (Bt104.ext h105)
    clear Bt104
    have it0_105 := Bt105.cell (j := 0) rfl
    have it1_105 := Bt105.cell (j := 1) rfl
    have it2_105 := Bt105.cell (j := 2) rfl
    have lt_105 := Bt105.lt
    have Bd105 := Bd105
    have id0_105 := Bd105.cell (j := 0) rfl
    have id1_105 := Bd105.cell (j := 1) rfl
    have id2_105 := Bd105.cell (j := 2) rfl
    have ld_105 := Bd105.lt
    go_wp2_with fail
    have Td := Lib.hid (deltaXs_isT HR.out UU.out S2.out x)
    have Te := Lib.hid (deltaXs_isT HR.out UU.out S3.out x)
    have hxn : x ∉ L := by have h := Tt.out.sub.nodup; rw [List.nodup_cons] at h; exact h.1
    have HXN := Lib.hid hxn; clear hxn
    have HRN := Lib.hid (rename_data HR.out Tt.out (HNO.out 50 (by omega)) (HMEM.out 50 (by simp)) (HDX.out 50 (by simp)))
    have HDG := Lib.hid (diag_data HR.out (y := 60) (z := 70) Tt.out (List.mem_cons_self ..) (HNO.out 60 (by omega)) (HNO.out 70 (by omega)) (by decide) (HMEM.out 60 (by simp)) (HMEM.out 70 (by simp)) (HDX.out 60 (by simp)) (HDX.out 70 (by simp)))
    have hn0_0_0 : w1.heap.size ≠ w105.heap.size := (by omega)
    have hn0_1_0 : w1.heap.size ≠ w105.heap.size + 1 := (by omega)
    have hn0_0_1 : w3.heap.size ≠ w105.heap.size := (by omega)
    have hn0_1_1 : w3.heap.size ≠ w105.heap.size + 1 := (by omega)
    have hn0_0_2 : bu105 ≠ w105.heap.size := (by omega)
    have hn0_1_2 : bu105 ≠ w105.heap.size + 1 := (by omega)
    go_upto_region 10 with fail
    go_cut [10, 11] from 25 (fun q ok wx => ∃ bu ap1 an1 ac1 ap2 an2 ac2 ap3 an3 ac3, q = .pointer (some ⟨bu, 0, none⟩) ∧ ok = .bool true ∧ Blk wx bu 31 [.slice ap1 an1 ac1, .slice ap2 an2 ac2, .slice ap3 an3 ac3] ∧ Ext w105 wx ∧ OwnT wx w105.heap.size (.agg #[.slice ap1 an1 ac1, .slice ap2 an2 ac2, .slice ap3 an3 ac3]) (L ++ [50]) ((L ++ [50]).map (dmX x)) (flat (contrXs HR.out (dmX x) (x :: L) [x, 50] (L ++ [50]) xs (deltaXs HR.out (dmX x) [x, 50] x))))
    case first =>
      as_aux_lemma =>
        refine wp_region_held_drew (S := fun w' => w'.cell? ⟨w1.heap.size, 0, none⟩ = some (.int .i64 k) ∧ w'.cell? ⟨w1.heap.size, 1, none⟩ = some (.int .i64 p) ∧ w'.cell? ⟨w1.heap.size, 2, none⟩ = some (.int .i64 n) ∧ w'.cell? ⟨w3.heap.size, 0, none⟩ = some (.slice (some ⟨b0, f0, none⟩) (L.length + 1) tc1) ∧ w'.cell? ⟨w3.heap.size, 1, none⟩ = some (.slice (some ⟨b1, f1, none⟩) (L.length + 1) tc2) ∧ w'.cell? ⟨w3.heap.size, 2, none⟩ = some (.slice tp3 tn3 tc3) ∧ w'.cell? ⟨bu105, 0, none⟩ = some (.slice dp1 dn1 dc1) ∧ w'.cell? ⟨bu105, 1, none⟩ = some (.slice dp2 dn2 dc2) ∧ w'.cell? ⟨bu105, 2, none⟩ = some (.slice dp3 dn3 dc3)) (by kernel_rfl) ?_ (fun hHeld => ?_)
        · (with_reducible exact ⟨((Ext.refl w105).drew).cell ir0_105, ((Ext.refl w105).drew).cell ir1_105, ((Ext.refl w105).drew).cell ir2_105, ((Ext.refl w105).drew).cell it0_105, ((Ext.refl w105).drew).cell it1_105, ((Ext.refl w105).drew).cell it2_105, ((Ext.refl w105).drew).cell id0_105, ((Ext.refl w105).drew).cell id1_105, ((Ext.refl w105).drew).cell id2_105⟩)
        refine wpAnyH_take (i := 0) (v := ?_) rfl (by kernel_rfl) (by kernel_rfl) (by kernel_rfl) (fun _ _ _ h => h) (Or.inl ⟨by rfl, ?_⟩) (by assumption) ?_
        rotate_left
        · intro w hSw; (try dsimp only at hSw); go_simp; (try with_reducible rfl)
        (try go_simp)
        refine wpAnyH_take (i := 1) (v := ?_) rfl (by kernel_rfl) (by kernel_rfl) (by kernel_rfl) (fun _ _ _ h => h) (Or.inl ⟨by rfl, ?_⟩) (by assumption) ?_
        rotate_left
        · intro w hSw; (try dsimp only at hSw); go_simp; (try with_reducible rfl)
        (try go_simp)
        refine wpAnyH_take (i := 2) (v := ?_) rfl (by kernel_rfl) (by kernel_rfl) (by kernel_rfl) (fun _ _ _ h => h) (Or.inl ⟨by rfl, ?_⟩) (by assumption) ?_
        rotate_left
        · intro w hSw; (try dsimp only at hSw); go_simp; (try with_reducible rfl)
        (try go_simp)
        refine wpAnyH_take (i := 3) (v := ?_) rfl (by kernel_rfl) (by kernel_rfl) (by kernel_rfl) (fun _ _ _ h => h) (Or.inl ⟨by rfl, ?_⟩) (by assumption) ?_
        rotate_left
        · intro w hSw; (try dsimp only at hSw); go_simp; (try with_reducible rfl)
        (try go_simp)
        refine wpAnyH_take (i := 4) (v := ?_) rfl (by kernel_rfl) (by kernel_rfl) (by kernel_rfl) (fun _ _ _ h => h) (Or.inl ⟨by rfl, ?_⟩) (by assumption) ?_
        rotate_left
        · intro w hSw; (try dsimp only at hSw); go_simp; (try with_reducible rfl)
        (try go_simp)
        refine wpAnyH_take (i := 5) (v := ?_) rfl (by kernel_rfl) (by kernel_rfl) (by kernel_rfl) (fun _ _ _ h => h) (Or.inl ⟨by rfl, ?_⟩) (by assumption) ?_
        rotate_left
        · intro w hSw; (try dsimp only at hSw); go_simp; (try with_reducible rfl)
        (try go_simp)
        refine wpAnyH_ready (rs := [6, 7, 13]) (by kernel_rfl) (by simp) ?_
        refine AllReadyH.cons rfl (fun Kc hKc => ?_) ?_
        · skip
          go_simp; go_at_call 36
          have Eq0 : Ext w105 w105.drew := ((Ext.refl w105).drew); (with_reducible refine (lawsCut_any _ (x :: L) x w105.drew ((ot.tens.ext (h104.trans h105)).labsP.ext Eq0) (by have := HL3.out; simp; omega)).mono ?_); rintro ea1 wa1 ⟨vc, rfl, oc, ha1⟩; have Ea1 : Ext w105 wa1 := Eq0.trans ha1; have xa1_0 := Ea1.cell ir0_105; have xa1_1 := Ea1.cell ir1_105; have xa1_2 := Ea1.cell ir2_105; have xa1_3 := Ea1.cell it0_105; have xa1_4 := Ea1.cell it1_105; have xa1_5 := Ea1.cell it2_105; have xa1_6 := Ea1.cell id0_105; have xa1_7 := Ea1.cell id1_105; have xa1_8 := Ea1.cell id2_105; have ha1zs := Ea1.size; rw [cutL_head HXN.out] at oc; obtain ⟨ac1, ac2, rfl, _, _⟩ := oc.ints.val; have hn1_0_0 : w1.heap.size ≠ wa1.heap.size := (by omega); have hn1_1_0 : w1.heap.size ≠ wa1.heap.size + 1 := (by omega); have hn1_0_1 : w3.heap.size ≠ wa1.heap.size := (by omega); have hn1_1_1 : w3.heap.size ≠ wa1.heap.size + 1 := (by omega); have hn1_0_2 : bu105 ≠ wa1.heap.size := (by omega); have hn1_1_2 : bu105 ≠ wa1.heap.size + 1 := (by omega)
          (try go_simp)
          refine hKc.out _ _ ?_ (fun hHeld => ?_) <;> clear hKc Kc
          · (with_reducible exact ⟨xa1_0, xa1_1, xa1_2, xa1_3, xa1_4, xa1_5, xa1_6, xa1_7, xa1_8⟩)
          refine wpAnyH_ready (rs := [7, 13]) (by kernel_rfl) (by simp) ?_
          refine AllReadyH.cons rfl (fun Kc hKc => ?_) ?_
          · skip
            go_simp
            refine hKc.out _ _ ?_ (fun hHeld => ?_) <;> clear hKc Kc
            · (with_reducible exact ⟨((Ext.refl wa1).alloc _).cell xa1_0, ((Ext.refl wa1).alloc _).cell xa1_1, ((Ext.refl wa1).alloc _).cell xa1_2, ((Ext.refl wa1).alloc _).cell xa1_3, ((Ext.refl wa1).alloc _).cell xa1_4, ((Ext.refl wa1).alloc _).cell xa1_5, ((Ext.refl wa1).alloc _).cell xa1_6, ((Ext.refl wa1).alloc _).cell xa1_7, ((Ext.refl wa1).alloc _).cell xa1_8⟩)
            refine wpAnyH_ready (rs := [8, 13]) (by kernel_rfl) (by simp) ?_
            refine AllReadyH.cons rfl (fun Kc hKc => ?_) ?_
            · skip
              go_simp; go_at_call 21
              have Eq1 : Ext w105 (wa1.alloc (.cells #[.int .i64 50] 3)) := (Ea1.alloc _); have su0 : IntS (wa1.alloc (.cells #[.int .i64 50] 3)) (.slice (some ⟨wa1.heap.size, 0, none⟩) 1 1) [50] := ((OwnI.of (B := 0) (l := [50]) (Nat.zero_le _) (Blk.newB (w := wa1) (c := #[.int .i64 50]) (b := wa1.heap.size) (by simp)) (by simp [maxLen])).ints); (with_reducible refine (lawsJoin_any _ _ L [50] (wa1.alloc (.cells #[.int .i64 50] 3)) (oc.ints.ext ((Ext.refl wa1).alloc _)) su0 (by have := HL3.out; omega) (by simp)).mono ?_); rintro ea2 wa2 ⟨vj, rfl, oj, ha2⟩; have Ea2 : Ext w105 wa2 := Eq1.trans ha2; have xa2_0 := Ea2.cell ir0_105; have xa2_1 := Ea2.cell ir1_105; have xa2_2 := Ea2.cell ir2_105; have xa2_3 := Ea2.cell it0_105; have xa2_4 := Ea2.cell it1_105; have xa2_5 := Ea2.cell it2_105; have xa2_6 := Ea2.cell id0_105; have xa2_7 := Ea2.cell id1_105; have xa2_8 := Ea2.cell id2_105; have ha2zs := Ea2.size; obtain ⟨J, hJ⟩ : ∃ J, L ++ [50] = J := ⟨_, rfl⟩; rw [hJ] at oj; obtain ⟨aj1, aj2, rfl, _, _⟩ := oj.ints.val; have HJ := Lib.hid hJ; clear hJ; have hn2_0_0 : w1.heap.size ≠ wa2.heap.size := (by omega); have hn2_1_0 : w1.heap.size ≠ wa2.heap.size + 1 := (by omega); have hn2_0_1 : w3.heap.size ≠ wa2.heap.size := (by omega); have hn2_1_1 : w3.heap.size ≠ wa2.heap.size + 1 := (by omega); have hn2_0_2 : bu105 ≠ wa2.heap.size := (by omega); have hn2_1_2 : bu105 ≠ wa2.heap.size + 1 := (by omega)
              (try go_simp)
              refine hKc.out _ _ ?_ (fun hHeld => ?_) <;> clear hKc Kc
              · (with_reducible exact ⟨xa2_0, xa2_1, xa2_2, xa2_3, xa2_4, xa2_5, xa2_6, xa2_7, xa2_8⟩)
              refine wpAnyH_ready (rs := [9, 13]) (by kernel_rfl) (by simp) ?_
              refine AllReadyH.cons rfl (fun Kc hKc => ?_) ?_
              · skip
                go_simp; go_at_call 14
                have Eq2 : Ext w105 wa2 := Ea2; (with_reducible refine (contractPair_any HR.out Tt.out Td.out J _ _ _ wa2 ((ot.tens.ext (h104.trans h105)).ext Eq2) (od.tens.ext Eq2) (oj.ints.ext (Ext.refl wa2))).mono ?_); rintro ea3 wa3 ⟨v3, rfl, oa, ha3⟩; have Ea3 : Ext w105 wa3 := Eq2.trans ha3; have xa3_0 := Ea3.cell ir0_105; have xa3_1 := Ea3.cell ir1_105; have xa3_2 := Ea3.cell ir2_105; have xa3_3 := Ea3.cell it0_105; have xa3_4 := Ea3.cell it1_105; have xa3_5 := Ea3.cell it2_105; have xa3_6 := Ea3.cell id0_105; have xa3_7 := Ea3.cell id1_105; have xa3_8 := Ea3.cell id2_105; have ha3zs := Ea3.size; rw [← HJ.out, HRN.out.1] at oa; obtain ⟨ap1, an1, ac1, ap2, an2, ac2, ap3, an3, ac3, rfl⟩ := oa.shape; have o4m := oa.mono (B' := w105.heap.size) Eq2.size; have hn3_0_0 : w1.heap.size ≠ wa3.heap.size := (by omega); have hn3_1_0 : w1.heap.size ≠ wa3.heap.size + 1 := (by omega); have hn3_0_1 : w3.heap.size ≠ wa3.heap.size := (by omega); have hn3_1_1 : w3.heap.size ≠ wa3.heap.size + 1 := (by omega); have hn3_0_2 : bu105 ≠ wa3.heap.size := (by omega); have hn3_1_2 : bu105 ≠ wa3.heap.size + 1 := (by omega)
                (try go_simp)
                refine hKc.out _ _ ?_ (fun hHeld => ?_) <;> clear hKc Kc
                · (with_reducible exact ⟨xa3_0, xa3_1, xa3_2, xa3_3, xa3_4, xa3_5, xa3_6, xa3_7, xa3_8⟩)
                refine wpAnyH_take (i := 10) (v := ?_) rfl (by kernel_rfl) (by kernel_rfl) (by kernel_rfl) (fun _ _ _ h => h) (Or.inl ⟨by rfl, ?_⟩) (by assumption) ?_
                rotate_left
                · intro w hSw; (try dsimp only at hSw); go_simp; (try with_reducible rfl)
                (try go_simp)
                refine wpAnyH_take (i := 11) (v := ?_) rfl (by kernel_rfl) (by kernel_rfl) (by kernel_rfl) (fun _ _ _ h => h) (Or.inl ⟨by rfl, ?_⟩) (by assumption) ?_
                rotate_left
                · intro w hSw; (try dsimp only at hSw); go_simp; (try with_reducible rfl)
                (try go_simp)
                refine wpAnyH_take (i := 12) (v := ?_) rfl (by kernel_rfl) (by kernel_rfl) (by kernel_rfl) (fun _ _ _ h => h) (Or.inl ⟨by rfl, ?_⟩) (by assumption) ?_
                rotate_left
                · intro w hSw; (try dsimp only at hSw); go_simp; (try with_reducible rfl)
                (try go_simp)
                refine wpAnyH_ready (rs := [13]) (by kernel_rfl) (by simp) ?_
                refine AllReadyH.cons rfl (fun Kc hKc => ?_) AllReadyH.nil
                go_simp
                refine hKc.out _ _ ?_ (fun hHeld => ?_) <;> clear hKc Kc
                · (with_reducible exact ⟨((Ext.refl wa3).alloc _).cell xa3_0, ((Ext.refl wa3).alloc _).cell xa3_1, ((Ext.refl wa3).alloc _).cell xa3_2, ((Ext.refl wa3).alloc _).cell xa3_3, ((Ext.refl wa3).alloc _).cell xa3_4, ((Ext.refl wa3).alloc _).cell xa3_5, ((Ext.refl wa3).alloc _).cell xa3_6, ((Ext.refl wa3).alloc _).cell xa3_7, ((Ext.refl wa3).alloc _).cell xa3_8⟩)
                refine wpAnyH_ready (rs := [14]) (by kernel_rfl) (by simp) ?_
                refine AllReadyH.cons rfl (fun Kc hKc => ?_) AllReadyH.nil
                go_simp
                refine hKc.out _ _ ?_ (fun hHeld => ?_) <;> clear hKc Kc
                · (with_reducible exact ⟨(Ea3.alloc _).cell ir0_105, (Ea3.alloc _).cell ir1_105, (Ea3.alloc _).cell ir2_105, (Ea3.alloc _).cell it0_105, (Ea3.alloc _).cell it1_105, (Ea3.alloc _).cell it2_105, (Ea3.alloc _).cell id0_105, (Ea3.alloc _).cell id1_105, (Ea3.alloc _).cell id2_105⟩)
                refine wpAnyH_ready (rs := [15]) (by kernel_rfl) (by simp) ?_
                refine AllReadyH.cons rfl (fun Kc hKc => ?_) AllReadyH.nil
                go_simp
                refine hKc.out _ _ ?_ (fun hHeld => ?_) <;> clear hKc Kc
                · (with_reducible exact ⟨(Ea3.alloc _).cell ir0_105, (Ea3.alloc _).cell ir1_105, (Ea3.alloc _).cell ir2_105, (Ea3.alloc _).cell it0_105, (Ea3.alloc _).cell it1_105, (Ea3.alloc _).cell it2_105, (Ea3.alloc _).cell id0_105, (Ea3.alloc _).cell id1_105, (Ea3.alloc _).cell id2_105⟩)
                refine wpAnyH_done (by kernel_rfl) ?_ _
                go_wp2_with fail
                go_meet
                exact ⟨wa3.heap.size, ap1, an1, ac1, ap2, an2, ac2, ap3, an3, ac3, rfl, rfl, Blk.new wa3 #[.slice ap1 an1 ac1, .slice ap2 an2 ac2, .slice ap3 an3 ac3] _, Ea3.alloc _, o4m.ext ((Ext.refl _).alloc _)⟩
              refine AllReadyH.cons rfl (fun Kc hKc => ?_) AllReadyH.nil
              go_simp
              refine hKc.out _ _ ?_ (fun hHeld => ?_) <;> clear hKc Kc
              · (with_reducible exact ⟨((Ext.refl wa2).alloc _).cell xa2_0, ((Ext.refl wa2).alloc _).cell xa2_1, ((Ext.refl wa2).alloc _).cell xa2_2, ((Ext.refl wa2).alloc _).cell xa2_3, ((Ext.refl wa2).alloc _).cell xa2_4, ((Ext.refl wa2).alloc _).cell xa2_5, ((Ext.refl wa2).alloc _).cell xa2_6, ((Ext.refl wa2).alloc _).cell xa2_7, ((Ext.refl wa2).alloc _).cell xa2_8⟩)
              refine wpAnyH_ready (rs := [9]) (by kernel_rfl) (by simp) ?_
              refine AllReadyH.cons rfl (fun Kc hKc => ?_) AllReadyH.nil
              go_simp; go_at_call 14
              have Eq2 : Ext w105 (wa2.alloc (.cells #[.slice none 0 0, .slice none 0 0, .slice none 0 0] 31)) := (Ea2.alloc _); (with_reducible refine (contractPair_any HR.out Tt.out Td.out J _ _ _ (wa2.alloc (.cells #[.slice none 0 0, .slice none 0 0, .slice none 0 0] 31)) ((ot.tens.ext (h104.trans h105)).ext Eq2) (od.tens.ext Eq2) (oj.ints.ext ((Ext.refl wa2).alloc _))).mono ?_); rintro ea3 wa3 ⟨v3, rfl, oa, ha3⟩; have Ea3 : Ext w105 wa3 := Eq2.trans ha3; have xa3_0 := Ea3.cell ir0_105; have xa3_1 := Ea3.cell ir1_105; have xa3_2 := Ea3.cell ir2_105; have xa3_3 := Ea3.cell it0_105; have xa3_4 := Ea3.cell it1_105; have xa3_5 := Ea3.cell it2_105; have xa3_6 := Ea3.cell id0_105; have xa3_7 := Ea3.cell id1_105; have xa3_8 := Ea3.cell id2_105; have ha3zs := Ea3.size; have Y3 : Blk wa3 (wa2.heap.size) 31 [.slice none 0 0, .slice none 0 0, .slice none 0 0] := (Blk.newB (w := wa2) (c := #[.slice none 0 0, .slice none 0 0, .slice none 0 0]) (b := wa2.heap.size) (by simp)).ext ha3; have ltY3 := Y3.lt; rw [← HJ.out, HRN.out.1] at oa; obtain ⟨ap1, an1, ac1, ap2, an2, ac2, ap3, an3, ac3, rfl⟩ := oa.shape; have o4m := oa.mono (B' := w105.heap.size) Eq2.size; have o5m := oa.mono (B' := wa2.heap.size + 1) (by first | (simp; done) | (simp; omega) | omega); have fb_0 := Y3.free 0; have yb_0 := Y3.cell (j := 0) rfl; have fb_1 := Y3.free 1; have yb_1 := Y3.cell (j := 1) rfl; have fb_2 := Y3.free 2; have yb_2 := Y3.cell (j := 2) rfl; have ylb := Y3.lt; have hn3_0_0 : w1.heap.size ≠ wa3.heap.size := (by omega); have hn3_1_0 : w1.heap.size ≠ wa3.heap.size + 1 := (by omega); have hn3_0_1 : w3.heap.size ≠ wa3.heap.size := (by omega); have hn3_1_1 : w3.heap.size ≠ wa3.heap.size + 1 := (by omega); have hn3_0_2 : bu105 ≠ wa3.heap.size := (by omega); have hn3_1_2 : bu105 ≠ wa3.heap.size + 1 := (by omega)
              (try go_simp)
              refine hKc.out _ _ ?_ (fun hHeld => ?_) <;> clear hKc Kc
              · (with_reducible exact ⟨xa3_0, xa3_1, xa3_2, xa3_3, xa3_4, xa3_5, xa3_6, xa3_7, xa3_8⟩)
              refine wpAnyH_take (i := 10) (v := ?_) rfl (by kernel_rfl) (by kernel_rfl) (by kernel_rfl) (fun _ _ _ h => h) (Or.inl ⟨by rfl, ?_⟩) (by assumption) ?_
              rotate_left
              · intro w hSw; (try dsimp only at hSw); go_simp; (try with_reducible rfl)
              (try go_simp)
              refine wpAnyH_take (i := 11) (v := ?_) rfl (by kernel_rfl) (by kernel_rfl) (by kernel_rfl) (fun _ _ _ h => h) (Or.inl ⟨by rfl, ?_⟩) (by assumption) ?_
              rotate_left
              · intro w hSw; (try dsimp only at hSw); go_simp; (try with_reducible rfl)
              (try go_simp)
              refine wpAnyH_take (i := 12) (v := ?_) rfl (by kernel_rfl) (by kernel_rfl) (by kernel_rfl) (fun _ _ _ h => h) (Or.inl ⟨by rfl, ?_⟩) (by assumption) ?_
              rotate_left
              · intro w hSw; (try dsimp only at hSw); go_simp; (try with_reducible rfl)
              (try go_simp)
              refine wpAnyH_ready (rs := [14]) (by kernel_rfl) (by simp) ?_
              refine AllReadyH.cons rfl (fun Kc hKc => ?_) AllReadyH.nil
              go_simp
              refine hKc.out _ _ ?_ (fun hHeld => ?_) <;> clear hKc Kc
              · (with_reducible exact ⟨grown_cell (b := wa2.heap.size) (grown_setCell (grown_setCell (grown_setCell (grown_refl _ _) _ _) _ _) _ _) hn2_0_0 xa3_0, grown_cell (b := wa2.heap.size) (grown_setCell (grown_setCell (grown_setCell (grown_refl _ _) _ _) _ _) _ _) hn2_0_0 xa3_1, grown_cell (b := wa2.heap.size) (grown_setCell (grown_setCell (grown_setCell (grown_refl _ _) _ _) _ _) _ _) hn2_0_0 xa3_2, grown_cell (b := wa2.heap.size) (grown_setCell (grown_setCell (grown_setCell (grown_refl _ _) _ _) _ _) _ _) hn2_0_1 xa3_3, grown_cell (b := wa2.heap.size) (grown_setCell (grown_setCell (grown_setCell (grown_refl _ _) _ _) _ _) _ _) hn2_0_1 xa3_4, grown_cell (b := wa2.heap.size) (grown_setCell (grown_setCell (grown_setCell (grown_refl _ _) _ _) _ _) _ _) hn2_0_1 xa3_5, grown_cell (b := wa2.heap.size) (grown_setCell (grown_setCell (grown_setCell (grown_refl _ _) _ _) _ _) _ _) hn2_0_2 xa3_6, grown_cell (b := wa2.heap.size) (grown_setCell (grown_setCell (grown_setCell (grown_refl _ _) _ _) _ _) _ _) hn2_0_2 xa3_7, grown_cell (b := wa2.heap.size) (grown_setCell (grown_setCell (grown_setCell (grown_refl _ _) _ _) _ _) _ _) hn2_0_2 xa3_8⟩)
              refine wpAnyH_ready (rs := [15]) (by kernel_rfl) (by simp) ?_
              refine AllReadyH.cons rfl (fun Kc hKc => ?_) AllReadyH.nil
              go_simp
              refine hKc.out _ _ ?_ (fun hHeld => ?_) <;> clear hKc Kc
              · (with_reducible exact ⟨grown_cell (b := wa2.heap.size) (grown_setCell (grown_setCell (grown_setCell (grown_refl _ _) _ _) _ _) _ _) hn2_0_0 xa3_0, grown_cell (b := wa2.heap.size) (grown_setCell (grown_setCell (grown_setCell (grown_refl _ _) _ _) _ _) _ _) hn2_0_0 xa3_1, grown_cell (b := wa2.heap.size) (grown_setCell (grown_setCell (grown_setCell (grown_refl _ _) _ _) _ _) _ _) hn2_0_0 xa3_2, grown_cell (b := wa2.heap.size) (grown_setCell (grown_setCell (grown_setCell (grown_refl _ _) _ _) _ _) _ _) hn2_0_1 xa3_3, grown_cell (b := wa2.heap.size) (grown_setCell (grown_setCell (grown_setCell (grown_refl _ _) _ _) _ _) _ _) hn2_0_1 xa3_4, grown_cell (b := wa2.heap.size) (grown_setCell (grown_setCell (grown_setCell (grown_refl _ _) _ _) _ _) _ _) hn2_0_1 xa3_5, grown_cell (b := wa2.heap.size) (grown_setCell (grown_setCell (grown_setCell (grown_refl _ _) _ _) _ _) _ _) hn2_0_2 xa3_6, grown_cell (b := wa2.heap.size) (grown_setCell (grown_setCell (grown_setCell (grown_refl _ _) _ _) _ _) _ _) hn2_0_2 xa3_7, grown_cell (b := wa2.heap.size) (grown_setCell (grown_setCell (grown_setCell (grown_refl _ _) _ _) _ _) _ _) hn2_0_2 xa3_8⟩)
              refine wpAnyH_done (by kernel_rfl) ?_ _
              go_wp2_with fail
              go_meet
              exact ⟨wa2.heap.size, ap1, an1, ac1, ap2, an2, ac2, ap3, an3, ac3, rfl, rfl, (((Y3.set 0 (.slice ap1 an1 ac1)).set 1 (.slice ap2 an2 ac2)).set 2 (.slice ap3 an3 ac3)), (((Ea3.setAt (by omega) _ _).setAt (by omega) _ _).setAt (by omega) _ _), (((o5m.setBelow (p := ⟨wa2.heap.size, 0, none⟩) (Nat.lt_succ_self _) _).setBelow (p := ⟨wa2.heap.size, 1, none⟩) (Nat.lt_succ_self _) _).setBelow (p := ⟨wa2.heap.size, 2, none⟩) (Nat.lt_succ_self _) _).mono (by omega)⟩
            refine AllReadyH.cons rfl (fun Kc hKc => ?_) AllReadyH.nil
            go_simp
            refine hKc.out _ _ ?_ (fun hHeld => ?_) <;> clear hKc Kc
            · (with_reducible exact ⟨(((Ext.refl wa1).alloc _).alloc _).cell xa1_0, (((Ext.refl wa1).alloc _).alloc _).cell xa1_1, (((Ext.refl wa1).alloc _).alloc _).cell xa1_2, (((Ext.refl wa1).alloc _).alloc _).cell xa1_3, (((Ext.refl wa1).alloc _).alloc _).cell xa1_4, (((Ext.refl wa1).alloc _).alloc _).cell xa1_5, (((Ext.refl wa1).alloc _).alloc _).cell xa1_6, (((Ext.refl wa1).alloc _).alloc _).cell xa1_7, (((Ext.refl wa1).alloc _).alloc _).cell xa1_8⟩)
            refine wpAnyH_ready (rs := [8]) (by kernel_rfl) (by simp) ?_
            refine AllReadyH.cons rfl (fun Kc hKc => ?_) AllReadyH.nil
            go_simp; go_at_call 21
            have Eq1 : Ext w105 ((wa1.alloc (.cells #[.int .i64 50] 3)).alloc (.cells #[.slice none 0 0, .slice none 0 0, .slice none 0 0] 31)) := ((Ea1.alloc _).alloc _); have su0 : IntS ((wa1.alloc (.cells #[.int .i64 50] 3)).alloc (.cells #[.slice none 0 0, .slice none 0 0, .slice none 0 0] 31)) (.slice (some ⟨wa1.heap.size, 0, none⟩) 1 1) [50] := (((OwnI.of (B := 0) (l := [50]) (Nat.zero_le _) (Blk.newB (w := wa1) (c := #[.int .i64 50]) (b := wa1.heap.size) (by simp)) (by simp [maxLen])).ints.ext ((Ext.refl _).alloc _))); (with_reducible refine (lawsJoin_any _ _ L [50] ((wa1.alloc (.cells #[.int .i64 50] 3)).alloc (.cells #[.slice none 0 0, .slice none 0 0, .slice none 0 0] 31)) (oc.ints.ext (((Ext.refl wa1).alloc _).alloc _)) su0 (by have := HL3.out; omega) (by simp)).mono ?_); rintro ea2 wa2 ⟨vj, rfl, oj, ha2⟩; have Ea2 : Ext w105 wa2 := Eq1.trans ha2; have xa2_0 := Ea2.cell ir0_105; have xa2_1 := Ea2.cell ir1_105; have xa2_2 := Ea2.cell ir2_105; have xa2_3 := Ea2.cell it0_105; have xa2_4 := Ea2.cell it1_105; have xa2_5 := Ea2.cell it2_105; have xa2_6 := Ea2.cell id0_105; have xa2_7 := Ea2.cell id1_105; have xa2_8 := Ea2.cell id2_105; have ha2zs := Ea2.size; have Y2 : Blk wa2 (wa1.heap.size + 1) 31 [.slice none 0 0, .slice none 0 0, .slice none 0 0] := (Blk.newB (w := (wa1.alloc (.cells #[.int .i64 50] 3))) (c := #[.slice none 0 0, .slice none 0 0, .slice none 0 0]) (b := wa1.heap.size + 1) (by simp)).ext ha2; have ltY2 := Y2.lt; obtain ⟨J, hJ⟩ : ∃ J, L ++ [50] = J := ⟨_, rfl⟩; rw [hJ] at oj; obtain ⟨aj1, aj2, rfl, _, _⟩ := oj.ints.val; have HJ := Lib.hid hJ; clear hJ; have hn2_0_0 : w1.heap.size ≠ wa2.heap.size := (by omega); have hn2_1_0 : w1.heap.size ≠ wa2.heap.size + 1 := (by omega); have hn2_0_1 : w3.heap.size ≠ wa2.heap.size := (by omega); have hn2_1_1 : w3.heap.size ≠ wa2.heap.size + 1 := (by omega); have hn2_0_2 : bu105 ≠ wa2.heap.size := (by omega); have hn2_1_2 : bu105 ≠ wa2.heap.size + 1 := (by omega)
            (try go_simp)
            refine hKc.out _ _ ?_ (fun hHeld => ?_) <;> clear hKc Kc
            · (with_reducible exact ⟨xa2_0, xa2_1, xa2_2, xa2_3, xa2_4, xa2_5, xa2_6, xa2_7, xa2_8⟩)
            refine wpAnyH_ready (rs := [9]) (by kernel_rfl) (by simp) ?_
            refine AllReadyH.cons rfl (fun Kc hKc => ?_) AllReadyH.nil
            go_simp; go_at_call 14
            have Eq2 : Ext w105 wa2 := Ea2; (with_reducible refine (contractPair_any HR.out Tt.out Td.out J _ _ _ wa2 ((ot.tens.ext (h104.trans h105)).ext Eq2) (od.tens.ext Eq2) (oj.ints.ext (Ext.refl wa2))).mono ?_); rintro ea3 wa3 ⟨v3, rfl, oa, ha3⟩; have Ea3 : Ext w105 wa3 := Eq2.trans ha3; have xa3_0 := Ea3.cell ir0_105; have xa3_1 := Ea3.cell ir1_105; have xa3_2 := Ea3.cell ir2_105; have xa3_3 := Ea3.cell it0_105; have xa3_4 := Ea3.cell it1_105; have xa3_5 := Ea3.cell it2_105; have xa3_6 := Ea3.cell id0_105; have xa3_7 := Ea3.cell id1_105; have xa3_8 := Ea3.cell id2_105; have ha3zs := Ea3.size; have Y3 : Blk wa3 (wa1.heap.size + 1) 31 [.slice none 0 0, .slice none 0 0, .slice none 0 0] := Y2.ext ha3; have ltY3 := Y3.lt; rw [← HJ.out, HRN.out.1] at oa; obtain ⟨ap1, an1, ac1, ap2, an2, ac2, ap3, an3, ac3, rfl⟩ := oa.shape; have o4m := oa.mono (B' := w105.heap.size) Eq2.size; have o5m := oa.mono (B' := wa1.heap.size + 1 + 1) (by first | (simp; done) | (simp; omega) | omega); have fb_0 := Y3.free 0; have yb_0 := Y3.cell (j := 0) rfl; have fb_1 := Y3.free 1; have yb_1 := Y3.cell (j := 1) rfl; have fb_2 := Y3.free 2; have yb_2 := Y3.cell (j := 2) rfl; have ylb := Y3.lt; have hn3_0_0 : w1.heap.size ≠ wa3.heap.size := (by omega); have hn3_1_0 : w1.heap.size ≠ wa3.heap.size + 1 := (by omega); have hn3_0_1 : w3.heap.size ≠ wa3.heap.size := (by omega); have hn3_1_1 : w3.heap.size ≠ wa3.heap.size + 1 := (by omega); have hn3_0_2 : bu105 ≠ wa3.heap.size := (by omega); have hn3_1_2 : bu105 ≠ wa3.heap.size + 1 := (by omega)
            (try go_simp)
            refine hKc.out _ _ ?_ (fun hHeld => ?_) <;> clear hKc Kc
            · (with_reducible exact ⟨xa3_0, xa3_1, xa3_2, xa3_3, xa3_4, xa3_5, xa3_6, xa3_7, xa3_8⟩)
            refine wpAnyH_take (i := 10) (v := ?_) rfl (by kernel_rfl) (by kernel_rfl) (by kernel_rfl) (fun _ _ _ h => h) (Or.inl ⟨by rfl, ?_⟩) (by assumption) ?_
            rotate_left
            · intro w hSw; (try dsimp only at hSw); go_simp; (try with_reducible rfl)
            (try go_simp)
            refine wpAnyH_take (i := 11) (v := ?_) rfl (by kernel_rfl) (by kernel_rfl) (by kernel_rfl) (fun _ _ _ h => h) (Or.inl ⟨by rfl, ?_⟩) (by assumption) ?_
            rotate_left
            · intro w hSw; (try dsimp only at hSw); go_simp; (try with_reducible rfl)
            (try go_simp)
            refine wpAnyH_take (i := 12) (v := ?_) rfl (by kernel_rfl) (by kernel_rfl) (by kernel_rfl) (fun _ _ _ h => h) (Or.inl ⟨by rfl, ?_⟩) (by assumption) ?_
            rotate_left
            · intro w hSw; (try dsimp only at hSw); go_simp; (try with_reducible rfl)
            (try go_simp)
            refine wpAnyH_ready (rs := [14]) (by kernel_rfl) (by simp) ?_
            refine AllReadyH.cons rfl (fun Kc hKc => ?_) AllReadyH.nil
            go_simp
            refine hKc.out _ _ ?_ (fun hHeld => ?_) <;> clear hKc Kc
            · (with_reducible exact ⟨grown_cell (b := wa1.heap.size + 1) (grown_setCell (grown_setCell (grown_setCell (grown_refl _ _) _ _) _ _) _ _) hn1_1_0 xa3_0, grown_cell (b := wa1.heap.size + 1) (grown_setCell (grown_setCell (grown_setCell (grown_refl _ _) _ _) _ _) _ _) hn1_1_0 xa3_1, grown_cell (b := wa1.heap.size + 1) (grown_setCell (grown_setCell (grown_setCell (grown_refl _ _) _ _) _ _) _ _) hn1_1_0 xa3_2, grown_cell (b := wa1.heap.size + 1) (grown_setCell (grown_setCell (grown_setCell (grown_refl _ _) _ _) _ _) _ _) hn1_1_1 xa3_3, grown_cell (b := wa1.heap.size + 1) (grown_setCell (grown_setCell (grown_setCell (grown_refl _ _) _ _) _ _) _ _) hn1_1_1 xa3_4, grown_cell (b := wa1.heap.size + 1) (grown_setCell (grown_setCell (grown_setCell (grown_refl _ _) _ _) _ _) _ _) hn1_1_1 xa3_5, grown_cell (b := wa1.heap.size + 1) (grown_setCell (grown_setCell (grown_setCell (grown_refl _ _) _ _) _ _) _ _) hn1_1_2 xa3_6, grown_cell (b := wa1.heap.size + 1) (grown_setCell (grown_setCell (grown_setCell (grown_refl _ _) _ _) _ _) _ _) hn1_1_2 xa3_7, grown_cell (b := wa1.heap.size + 1) (grown_setCell (grown_setCell (grown_setCell (grown_refl _ _) _ _) _ _) _ _) hn1_1_2 xa3_8⟩)
            refine wpAnyH_ready (rs := [15]) (by kernel_rfl) (by simp) ?_
            refine AllReadyH.cons rfl (fun Kc hKc => ?_) AllReadyH.nil
            go_simp
            refine hKc.out _ _ ?_ (fun hHeld => ?_) <;> clear hKc Kc
            · (with_reducible exact ⟨grown_cell (b := wa1.heap.size + 1) (grown_setCell (grown_setCell (grown_setCell (grown_refl _ _) _ _) _ _) _ _) hn1_1_0 xa3_0, grown_cell (b := wa1.heap.size + 1) (grown_setCell (grown_setCell (grown_setCell (grown_refl _ _) _ _) _ _) _ _) hn1_1_0 xa3_1, grown_cell (b := wa1.heap.size + 1) (grown_setCell (grown_setCell (grown_setCell (grown_refl _ _) _ _) _ _) _ _) hn1_1_0 xa3_2, grown_cell (b := wa1.heap.size + 1) (grown_setCell (grown_setCell (grown_setCell (grown_refl _ _) _ _) _ _) _ _) hn1_1_1 xa3_3, grown_cell (b := wa1.heap.size + 1) (grown_setCell (grown_setCell (grown_setCell (grown_refl _ _) _ _) _ _) _ _) hn1_1_1 xa3_4, grown_cell (b := wa1.heap.size + 1) (grown_setCell (grown_setCell (grown_setCell (grown_refl _ _) _ _) _ _) _ _) hn1_1_1 xa3_5, grown_cell (b := wa1.heap.size + 1) (grown_setCell (grown_setCell (grown_setCell (grown_refl _ _) _ _) _ _) _ _) hn1_1_2 xa3_6, grown_cell (b := wa1.heap.size + 1) (grown_setCell (grown_setCell (grown_setCell (grown_refl _ _) _ _) _ _) _ _) hn1_1_2 xa3_7, grown_cell (b := wa1.heap.size + 1) (grown_setCell (grown_setCell (grown_setCell (grown_refl _ _) _ _) _ _) _ _) hn1_1_2 xa3_8⟩)
            refine wpAnyH_done (by kernel_rfl) ?_ _
            go_wp2_with fail
            go_meet
            exact ⟨wa1.heap.size + 1, ap1, an1, ac1, ap2, an2, ac2, ap3, an3, ac3, rfl, rfl, (((Y3.set 0 (.slice ap1 an1 ac1)).set 1 (.slice ap2 an2 ac2)).set 2 (.slice ap3 an3 ac3)), (((Ea3.setAt (by omega) _ _).setAt (by omega) _ _).setAt (by omega) _ _), (((o5m.setBelow (p := ⟨wa1.heap.size + 1, 0, none⟩) (Nat.lt_succ_self _) _).setBelow (p := ⟨wa1.heap.size + 1, 1, none⟩) (Nat.lt_succ_self _) _).setBelow (p := ⟨wa1.heap.size + 1, 2, none⟩) (Nat.lt_succ_self _) _).mono (by omega)⟩
          refine AllReadyH.cons rfl (fun Kc hKc => ?_) AllReadyH.nil
          go_simp
          refine hKc.out _ _ ?_ (fun hHeld => ?_) <;> clear hKc Kc
          · (with_reducible exact ⟨((Ext.refl wa1).alloc _).cell xa1_0, ((Ext.refl wa1).alloc _).cell xa1_1, ((Ext.refl wa1).alloc _).cell xa1_2, ((Ext.refl wa1).alloc _).cell xa1_3, ((Ext.refl wa1).alloc _).cell xa1_4, ((Ext.refl wa1).alloc _).cell xa1_5, ((Ext.refl wa1).alloc _).cell xa1_6, ((Ext.refl wa1).alloc _).cell xa1_7, ((Ext.refl wa1).alloc _).cell xa1_8⟩)
          refine wpAnyH_ready (rs := [7]) (by kernel_rfl) (by simp) ?_
          refine AllReadyH.cons rfl (fun Kc hKc => ?_) AllReadyH.nil
          go_simp
          refine hKc.out _ _ ?_ (fun hHeld => ?_) <;> clear hKc Kc
          · (with_reducible exact ⟨(((Ext.refl wa1).alloc _).alloc _).cell xa1_0, (((Ext.refl wa1).alloc _).alloc _).cell xa1_1, (((Ext.refl wa1).alloc _).alloc _).cell xa1_2, (((Ext.refl wa1).alloc _).alloc _).cell xa1_3, (((Ext.refl wa1).alloc _).alloc _).cell xa1_4, (((Ext.refl wa1).alloc _).alloc _).cell xa1_5, (((Ext.refl wa1).alloc _).alloc _).cell xa1_6, (((Ext.refl wa1).alloc _).alloc _).cell xa1_7, (((Ext.refl wa1).alloc _).alloc _).cell xa1_8⟩)
          refine wpAnyH_ready (rs := [8]) (by kernel_rfl) (by simp) ?_
          refine AllReadyH.cons rfl (fun Kc hKc => ?_) AllReadyH.nil
          go_simp; go_at_call 21
          have Eq1 : Ext w105 ((wa1.alloc (.cells #[.slice none 0 0, .slice none 0 0, .slice none 0 0] 31)).alloc (.cells #[.int .i64 50] 3)) := ((Ea1.alloc _).alloc _); have su0 : IntS ((wa1.alloc (.cells #[.slice none 0 0, .slice none 0 0, .slice none 0 0] 31)).alloc (.cells #[.int .i64 50] 3)) (.slice (some ⟨wa1.heap.size + 1, 0, none⟩) 1 1) [50] := ((OwnI.of (B := 0) (l := [50]) (Nat.zero_le _) (Blk.newB (w := (wa1.alloc (.cells #[.slice none 0 0, .slice none 0 0, .slice none 0 0] 31))) (c := #[.int .i64 50]) (b := wa1.heap.size + 1) (by simp)) (by simp [maxLen])).ints); (with_reducible refine (lawsJoin_any _ _ L [50] ((wa1.alloc (.cells #[.slice none 0 0, .slice none 0 0, .slice none 0 0] 31)).alloc (.cells #[.int .i64 50] 3)) (oc.ints.ext (((Ext.refl wa1).alloc _).alloc _)) su0 (by have := HL3.out; omega) (by simp)).mono ?_); rintro ea2 wa2 ⟨vj, rfl, oj, ha2⟩; have Ea2 : Ext w105 wa2 := Eq1.trans ha2; have xa2_0 := Ea2.cell ir0_105; have xa2_1 := Ea2.cell ir1_105; have xa2_2 := Ea2.cell ir2_105; have xa2_3 := Ea2.cell it0_105; have xa2_4 := Ea2.cell it1_105; have xa2_5 := Ea2.cell it2_105; have xa2_6 := Ea2.cell id0_105; have xa2_7 := Ea2.cell id1_105; have xa2_8 := Ea2.cell id2_105; have ha2zs := Ea2.size; have Y2 : Blk wa2 (wa1.heap.size) 31 [.slice none 0 0, .slice none 0 0, .slice none 0 0] := ((Blk.newB (w := wa1) (c := #[.slice none 0 0, .slice none 0 0, .slice none 0 0]) (b := wa1.heap.size) (by simp)).ext ((Ext.refl _).alloc _)).ext ha2; have ltY2 := Y2.lt; obtain ⟨J, hJ⟩ : ∃ J, L ++ [50] = J := ⟨_, rfl⟩; rw [hJ] at oj; obtain ⟨aj1, aj2, rfl, _, _⟩ := oj.ints.val; have HJ := Lib.hid hJ; clear hJ; have hn2_0_0 : w1.heap.size ≠ wa2.heap.size := (by omega); have hn2_1_0 : w1.heap.size ≠ wa2.heap.size + 1 := (by omega); have hn2_0_1 : w3.heap.size ≠ wa2.heap.size := (by omega); have hn2_1_1 : w3.heap.size ≠ wa2.heap.size + 1 := (by omega); have hn2_0_2 : bu105 ≠ wa2.heap.size := (by omega); have hn2_1_2 : bu105 ≠ wa2.heap.size + 1 := (by omega)
          (try go_simp)
          refine hKc.out _ _ ?_ (fun hHeld => ?_) <;> clear hKc Kc
          · (with_reducible exact ⟨xa2_0, xa2_1, xa2_2, xa2_3, xa2_4, xa2_5, xa2_6, xa2_7, xa2_8⟩)
          refine wpAnyH_ready (rs := [9]) (by kernel_rfl) (by simp) ?_
          refine AllReadyH.cons rfl (fun Kc hKc => ?_) AllReadyH.nil
          go_simp; go_at_call 14
          have Eq2 : Ext w105 wa2 := Ea2; (with_reducible refine (contractPair_any HR.out Tt.out Td.out J _ _ _ wa2 ((ot.tens.ext (h104.trans h105)).ext Eq2) (od.tens.ext Eq2) (oj.ints.ext (Ext.refl wa2))).mono ?_); rintro ea3 wa3 ⟨v3, rfl, oa, ha3⟩; have Ea3 : Ext w105 wa3 := Eq2.trans ha3; have xa3_0 := Ea3.cell ir0_105; have xa3_1 := Ea3.cell ir1_105; have xa3_2 := Ea3.cell ir2_105; have xa3_3 := Ea3.cell it0_105; have xa3_4 := Ea3.cell it1_105; have xa3_5 := Ea3.cell it2_105; have xa3_6 := Ea3.cell id0_105; have xa3_7 := Ea3.cell id1_105; have xa3_8 := Ea3.cell id2_105; have ha3zs := Ea3.size; have Y3 : Blk wa3 (wa1.heap.size) 31 [.slice none 0 0, .slice none 0 0, .slice none 0 0] := Y2.ext ha3; have ltY3 := Y3.lt; rw [← HJ.out, HRN.out.1] at oa; obtain ⟨ap1, an1, ac1, ap2, an2, ac2, ap3, an3, ac3, rfl⟩ := oa.shape; have o4m := oa.mono (B' := w105.heap.size) Eq2.size; have o5m := oa.mono (B' := wa1.heap.size + 1) (by first | (simp; done) | (simp; omega) | omega); have fb_0 := Y3.free 0; have yb_0 := Y3.cell (j := 0) rfl; have fb_1 := Y3.free 1; have yb_1 := Y3.cell (j := 1) rfl; have fb_2 := Y3.free 2; have yb_2 := Y3.cell (j := 2) rfl; have ylb := Y3.lt; have hn3_0_0 : w1.heap.size ≠ wa3.heap.size := (by omega); have hn3_1_0 : w1.heap.size ≠ wa3.heap.size + 1 := (by omega); have hn3_0_1 : w3.heap.size ≠ wa3.heap.size := (by omega); have hn3_1_1 : w3.heap.size ≠ wa3.heap.size + 1 := (by omega); have hn3_0_2 : bu105 ≠ wa3.heap.size := (by omega); have hn3_1_2 : bu105 ≠ wa3.heap.size + 1 := (by omega)
          (try go_simp)
          refine hKc.out _ _ ?_ (fun hHeld => ?_) <;> clear hKc Kc
          · (with_reducible exact ⟨xa3_0, xa3_1, xa3_2, xa3_3, xa3_4, xa3_5, xa3_6, xa3_7, xa3_8⟩)
          refine wpAnyH_take (i := 10) (v := ?_) rfl (by kernel_rfl) (by kernel_rfl) (by kernel_rfl) (fun _ _ _ h => h) (Or.inl ⟨by rfl, ?_⟩) (by assumption) ?_
          rotate_left
          · intro w hSw; (try dsimp only at hSw); go_simp; (try with_reducible rfl)
          (try go_simp)
          refine wpAnyH_take (i := 11) (v := ?_) rfl (by kernel_rfl) (by kernel_rfl) (by kernel_rfl) (fun _ _ _ h => h) (Or.inl ⟨by rfl, ?_⟩) (by assumption) ?_
          rotate_left
          · intro w hSw; (try dsimp only at hSw); go_simp; (try with_reducible rfl)
          (try go_simp)
          refine wpAnyH_take (i := 12) (v := ?_) rfl (by kernel_rfl) (by kernel_rfl) (by kernel_rfl) (fun _ _ _ h => h) (Or.inl ⟨by rfl, ?_⟩) (by assumption) ?_
          rotate_left
          · intro w hSw; (try dsimp only at hSw); go_simp; (try with_reducible rfl)
          (try go_simp)
          refine wpAnyH_ready (rs := [14]) (by kernel_rfl) (by simp) ?_
          refine AllReadyH.cons rfl (fun Kc hKc => ?_) AllReadyH.nil
          go_simp
          refine hKc.out _ _ ?_ (fun hHeld => ?_) <;> clear hKc Kc
          · (with_reducible exact ⟨grown_cell (b := wa1.heap.size) (grown_setCell (grown_setCell (grown_setCell (grown_refl _ _) _ _) _ _) _ _) hn1_0_0 xa3_0, grown_cell (b := wa1.heap.size) (grown_setCell (grown_setCell (grown_setCell (grown_refl _ _) _ _) _ _) _ _) hn1_0_0 xa3_1, grown_cell (b := wa1.heap.size) (grown_setCell (grown_setCell (grown_setCell (grown_refl _ _) _ _) _ _) _ _) hn1_0_0 xa3_2, grown_cell (b := wa1.heap.size) (grown_setCell (grown_setCell (grown_setCell (grown_refl _ _) _ _) _ _) _ _) hn1_0_1 xa3_3, grown_cell (b := wa1.heap.size) (grown_setCell (grown_setCell (grown_setCell (grown_refl _ _) _ _) _ _) _ _) hn1_0_1 xa3_4, grown_cell (b := wa1.heap.size) (grown_setCell (grown_setCell (grown_setCell (grown_refl _ _) _ _) _ _) _ _) hn1_0_1 xa3_5, grown_cell (b := wa1.heap.size) (grown_setCell (grown_setCell (grown_setCell (grown_refl _ _) _ _) _ _) _ _) hn1_0_2 xa3_6, grown_cell (b := wa1.heap.size) (grown_setCell (grown_setCell (grown_setCell (grown_refl _ _) _ _) _ _) _ _) hn1_0_2 xa3_7, grown_cell (b := wa1.heap.size) (grown_setCell (grown_setCell (grown_setCell (grown_refl _ _) _ _) _ _) _ _) hn1_0_2 xa3_8⟩)
          refine wpAnyH_ready (rs := [15]) (by kernel_rfl) (by simp) ?_
          refine AllReadyH.cons rfl (fun Kc hKc => ?_) AllReadyH.nil
          go_simp
          refine hKc.out _ _ ?_ (fun hHeld => ?_) <;> clear hKc Kc
          · (with_reducible exact ⟨grown_cell (b := wa1.heap.size) (grown_setCell (grown_setCell (grown_setCell (grown_refl _ _) _ _) _ _) _ _) hn1_0_0 xa3_0, grown_cell (b := wa1.heap.size) (grown_setCell (grown_setCell (grown_setCell (grown_refl _ _) _ _) _ _) _ _) hn1_0_0 xa3_1, grown_cell (b := wa1.heap.size) (grown_setCell (grown_setCell (grown_setCell (grown_refl _ _) _ _) _ _) _ _) hn1_0_0 xa3_2, grown_cell (b := wa1.heap.size) (grown_setCell (grown_setCell (grown_setCell (grown_refl _ _) _ _) _ _) _ _) hn1_0_1 xa3_3, grown_cell (b := wa1.heap.size) (grown_setCell (grown_setCell (grown_setCell (grown_refl _ _) _ _) _ _) _ _) hn1_0_1 xa3_4, grown_cell (b := wa1.heap.size) (grown_setCell (grown_setCell (grown_setCell (grown_refl _ _) _ _) _ _) _ _) hn1_0_1 xa3_5, grown_cell (b := wa1.heap.size) (grown_setCell (grown_setCell (grown_setCell (grown_refl _ _) _ _) _ _) _ _) hn1_0_2 xa3_6, grown_cell (b := wa1.heap.size) (grown_setCell (grown_setCell (grown_setCell (grown_refl _ _) _ _) _ _) _ _) hn1_0_2 xa3_7, grown_cell (b := wa1.heap.size) (grown_setCell (grown_setCell (grown_setCell (grown_refl _ _) _ _) _ _) _ _) hn1_0_2 xa3_8⟩)
          refine wpAnyH_done (by kernel_rfl) ?_ _
          go_wp2_with fail
          go_meet
          exact ⟨wa1.heap.size, ap1, an1, ac1, ap2, an2, ac2, ap3, an3, ac3, rfl, rfl, (((Y3.set 0 (.slice ap1 an1 ac1)).set 1 (.slice ap2 an2 ac2)).set 2 (.slice ap3 an3 ac3)), (((Ea3.setAt (by omega) _ _).setAt (by omega) _ _).setAt (by omega) _ _), (((o5m.setBelow (p := ⟨wa1.heap.size, 0, none⟩) (Nat.lt_succ_self _) _).setBelow (p := ⟨wa1.heap.size, 1, none⟩) (Nat.lt_succ_self _) _).setBelow (p := ⟨wa1.heap.size, 2, none⟩) (Nat.lt_succ_self _) _).mono (by omega)⟩
        refine AllReadyH.cons rfl (fun Kc hKc => ?_) ?_
        · skip
          go_simp
          refine hKc.out _ _ ?_ (fun hHeld => ?_) <;> clear hKc Kc
          · (with_reducible exact ⟨(((Ext.refl w105).alloc _).drew).cell ir0_105, (((Ext.refl w105).alloc _).drew).cell ir1_105, (((Ext.refl w105).alloc _).drew).cell ir2_105, (((Ext.refl w105).alloc _).drew).cell it0_105, (((Ext.refl w105).alloc _).drew).cell it1_105, (((Ext.refl w105).alloc _).drew).cell it2_105, (((Ext.refl w105).alloc _).drew).cell id0_105, (((Ext.refl w105).alloc _).drew).cell id1_105, (((Ext.refl w105).alloc _).drew).cell id2_105⟩)
          refine wpAnyH_ready (rs := [6, 13]) (by kernel_rfl) (by simp) ?_
          refine AllReadyH.cons rfl (fun Kc hKc => ?_) ?_
          · skip
            go_simp; go_at_call 36
            have Eq0 : Ext w105 (w105.alloc (.cells #[.int .i64 50] 3)).drew := (((Ext.refl w105).alloc _).drew); (with_reducible refine (lawsCut_any _ (x :: L) x (w105.alloc (.cells #[.int .i64 50] 3)).drew ((ot.tens.ext (h104.trans h105)).labsP.ext Eq0) (by have := HL3.out; simp; omega)).mono ?_); rintro ea1 wa1 ⟨vc, rfl, oc, ha1⟩; have Ea1 : Ext w105 wa1 := Eq0.trans ha1; have xa1_0 := Ea1.cell ir0_105; have xa1_1 := Ea1.cell ir1_105; have xa1_2 := Ea1.cell ir2_105; have xa1_3 := Ea1.cell it0_105; have xa1_4 := Ea1.cell it1_105; have xa1_5 := Ea1.cell it2_105; have xa1_6 := Ea1.cell id0_105; have xa1_7 := Ea1.cell id1_105; have xa1_8 := Ea1.cell id2_105; have ha1zs := Ea1.size; have sf0_1 : IntS wa1 (.slice (some ⟨w105.heap.size, 0, none⟩) 1 1) [50] := ((OwnI.of (B := 0) (l := [50]) (Nat.zero_le _) (Blk.newB (w := w105) (c := #[.int .i64 50]) (b := w105.heap.size) (by simp)) (by simp [maxLen])).ints.ext ((Ext.refl _).drew)).ext ha1; rw [cutL_head HXN.out] at oc; obtain ⟨ac1, ac2, rfl, _, _⟩ := oc.ints.val; have hn1_0_0 : w1.heap.size ≠ wa1.heap.size := (by omega); have hn1_1_0 : w1.heap.size ≠ wa1.heap.size + 1 := (by omega); have hn1_0_1 : w3.heap.size ≠ wa1.heap.size := (by omega); have hn1_1_1 : w3.heap.size ≠ wa1.heap.size + 1 := (by omega); have hn1_0_2 : bu105 ≠ wa1.heap.size := (by omega); have hn1_1_2 : bu105 ≠ wa1.heap.size + 1 := (by omega)
            (try go_simp)
            refine hKc.out _ _ ?_ (fun hHeld => ?_) <;> clear hKc Kc
            · (with_reducible exact ⟨xa1_0, xa1_1, xa1_2, xa1_3, xa1_4, xa1_5, xa1_6, xa1_7, xa1_8⟩)
            refine wpAnyH_ready (rs := [8, 13]) (by kernel_rfl) (by simp) ?_
            refine AllReadyH.cons rfl (fun Kc hKc => ?_) ?_
            · skip
              go_simp; go_at_call 21
              have Eq1 : Ext w105 wa1 := Ea1; have su0 : IntS wa1 (.slice (some ⟨w105.heap.size, 0, none⟩) 1 1) [50] := (sf0_1); (with_reducible refine (lawsJoin_any _ _ L [50] wa1 (oc.ints.ext (Ext.refl wa1)) su0 (by have := HL3.out; omega) (by simp)).mono ?_); rintro ea2 wa2 ⟨vj, rfl, oj, ha2⟩; have Ea2 : Ext w105 wa2 := Eq1.trans ha2; have xa2_0 := Ea2.cell ir0_105; have xa2_1 := Ea2.cell ir1_105; have xa2_2 := Ea2.cell ir2_105; have xa2_3 := Ea2.cell it0_105; have xa2_4 := Ea2.cell it1_105; have xa2_5 := Ea2.cell it2_105; have xa2_6 := Ea2.cell id0_105; have xa2_7 := Ea2.cell id1_105; have xa2_8 := Ea2.cell id2_105; have ha2zs := Ea2.size; obtain ⟨J, hJ⟩ : ∃ J, L ++ [50] = J := ⟨_, rfl⟩; rw [hJ] at oj; obtain ⟨aj1, aj2, rfl, _, _⟩ := oj.ints.val; have HJ := Lib.hid hJ; clear hJ; have hn2_0_0 : w1.heap.size ≠ wa2.heap.size := (by omega); have hn2_1_0 : w1.heap.size ≠ wa2.heap.size + 1 := (by omega); have hn2_0_1 : w3.heap.size ≠ wa2.heap.size := (by omega); have hn2_1_1 : w3.heap.size ≠ wa2.heap.size + 1 := (by omega); have hn2_0_2 : bu105 ≠ wa2.heap.size := (by omega); have hn2_1_2 : bu105 ≠ wa2.heap.size + 1 := (by omega)
              (try go_simp)
              refine hKc.out _ _ ?_ (fun hHeld => ?_) <;> clear hKc Kc
              · (with_reducible exact ⟨xa2_0, xa2_1, xa2_2, xa2_3, xa2_4, xa2_5, xa2_6, xa2_7, xa2_8⟩)
              refine wpAnyH_ready (rs := [9, 13]) (by kernel_rfl) (by simp) ?_
              refine AllReadyH.cons rfl (fun Kc hKc => ?_) ?_
              · skip
                go_simp; go_at_call 14
                have Eq2 : Ext w105 wa2 := Ea2; (with_reducible refine (contractPair_any HR.out Tt.out Td.out J _ _ _ wa2 ((ot.tens.ext (h104.trans h105)).ext Eq2) (od.tens.ext Eq2) (oj.ints.ext (Ext.refl wa2))).mono ?_); rintro ea3 wa3 ⟨v3, rfl, oa, ha3⟩; have Ea3 : Ext w105 wa3 := Eq2.trans ha3; have xa3_0 := Ea3.cell ir0_105; have xa3_1 := Ea3.cell ir1_105; have xa3_2 := Ea3.cell ir2_105; have xa3_3 := Ea3.cell it0_105; have xa3_4 := Ea3.cell it1_105; have xa3_5 := Ea3.cell it2_105; have xa3_6 := Ea3.cell id0_105; have xa3_7 := Ea3.cell id1_105; have xa3_8 := Ea3.cell id2_105; have ha3zs := Ea3.size; rw [← HJ.out, HRN.out.1] at oa; obtain ⟨ap1, an1, ac1, ap2, an2, ac2, ap3, an3, ac3, rfl⟩ := oa.shape; have o4m := oa.mono (B' := w105.heap.size) Eq2.size; have hn3_0_0 : w1.heap.size ≠ wa3.heap.size := (by omega); have hn3_1_0 : w1.heap.size ≠ wa3.heap.size + 1 := (by omega); have hn3_0_1 : w3.heap.size ≠ wa3.heap.size := (by omega); have hn3_1_1 : w3.heap.size ≠ wa3.heap.size + 1 := (by omega); have hn3_0_2 : bu105 ≠ wa3.heap.size := (by omega); have hn3_1_2 : bu105 ≠ wa3.heap.size + 1 := (by omega)
                (try go_simp)
                refine hKc.out _ _ ?_ (fun hHeld => ?_) <;> clear hKc Kc
                · (with_reducible exact ⟨xa3_0, xa3_1, xa3_2, xa3_3, xa3_4, xa3_5, xa3_6, xa3_7, xa3_8⟩)
                refine wpAnyH_take (i := 10) (v := ?_) rfl (by kernel_rfl) (by kernel_rfl) (by kernel_rfl) (fun _ _ _ h => h) (Or.inl ⟨by rfl, ?_⟩) (by assumption) ?_
                rotate_left
                · intro w hSw; (try dsimp only at hSw); go_simp; (try with_reducible rfl)
                (try go_simp)
                refine wpAnyH_take (i := 11) (v := ?_) rfl (by kernel_rfl) (by kernel_rfl) (by kernel_rfl) (fun _ _ _ h => h) (Or.inl ⟨by rfl, ?_⟩) (by assumption) ?_
                rotate_left
                · intro w hSw; (try dsimp only at hSw); go_simp; (try with_reducible rfl)
                (try go_simp)
                refine wpAnyH_take (i := 12) (v := ?_) rfl (by kernel_rfl) (by kernel_rfl) (by kernel_rfl) (fun _ _ _ h => h) (Or.inl ⟨by rfl, ?_⟩) (by assumption) ?_
                rotate_left
                · intro w hSw; (try dsimp only at hSw); go_simp; (try with_reducible rfl)
                (try go_simp)
                refine wpAnyH_ready (rs := [13]) (by kernel_rfl) (by simp) ?_
                refine AllReadyH.cons rfl (fun Kc hKc => ?_) AllReadyH.nil
                go_simp
                refine hKc.out _ _ ?_ (fun hHeld => ?_) <;> clear hKc Kc
                · (with_reducible exact ⟨((Ext.refl wa3).alloc _).cell xa3_0, ((Ext.refl wa3).alloc _).cell xa3_1, ((Ext.refl wa3).alloc _).cell xa3_2, ((Ext.refl wa3).alloc _).cell xa3_3, ((Ext.refl wa3).alloc _).cell xa3_4, ((Ext.refl wa3).alloc _).cell xa3_5, ((Ext.refl wa3).alloc _).cell xa3_6, ((Ext.refl wa3).alloc _).cell xa3_7, ((Ext.refl wa3).alloc _).cell xa3_8⟩)
                refine wpAnyH_ready (rs := [14]) (by kernel_rfl) (by simp) ?_
                refine AllReadyH.cons rfl (fun Kc hKc => ?_) AllReadyH.nil
                go_simp
                refine hKc.out _ _ ?_ (fun hHeld => ?_) <;> clear hKc Kc
                · (with_reducible exact ⟨(Ea3.alloc _).cell ir0_105, (Ea3.alloc _).cell ir1_105, (Ea3.alloc _).cell ir2_105, (Ea3.alloc _).cell it0_105, (Ea3.alloc _).cell it1_105, (Ea3.alloc _).cell it2_105, (Ea3.alloc _).cell id0_105, (Ea3.alloc _).cell id1_105, (Ea3.alloc _).cell id2_105⟩)
                refine wpAnyH_ready (rs := [15]) (by kernel_rfl) (by simp) ?_
                refine AllReadyH.cons rfl (fun Kc hKc => ?_) AllReadyH.nil
                go_simp
                refine hKc.out _ _ ?_ (fun hHeld => ?_) <;> clear hKc Kc
                · (with_reducible exact ⟨(Ea3.alloc _).cell ir0_105, (Ea3.alloc _).cell ir1_105, (Ea3.alloc _).cell ir2_105, (Ea3.alloc _).cell it0_105, (Ea3.alloc _).cell it1_105, (Ea3.alloc _).cell it2_105, (Ea3.alloc _).cell id0_105, (Ea3.alloc _).cell id1_105, (Ea3.alloc _).cell id2_105⟩)
                refine wpAnyH_done (by kernel_rfl) ?_ _
                go_wp2_with fail
                go_meet
                exact ⟨wa3.heap.size, ap1, an1, ac1, ap2, an2, ac2, ap3, an3, ac3, rfl, rfl, Blk.new wa3 #[.slice ap1 an1 ac1, .slice ap2 an2 ac2, .slice ap3 an3 ac3] _, Ea3.alloc _, o4m.ext ((Ext.refl _).alloc _)⟩
              refine AllReadyH.cons rfl (fun Kc hKc => ?_) AllReadyH.nil
              go_simp
              refine hKc.out _ _ ?_ (fun hHeld => ?_) <;> clear hKc Kc
              · (with_reducible exact ⟨((Ext.refl wa2).alloc _).cell xa2_0, ((Ext.refl wa2).alloc _).cell xa2_1, ((Ext.refl wa2).alloc _).cell xa2_2, ((Ext.refl wa2).alloc _).cell xa2_3, ((Ext.refl wa2).alloc _).cell xa2_4, ((Ext.refl wa2).alloc _).cell xa2_5, ((Ext.refl wa2).alloc _).cell xa2_6, ((Ext.refl wa2).alloc _).cell xa2_7, ((Ext.refl wa2).alloc _).cell xa2_8⟩)
              refine wpAnyH_ready (rs := [9]) (by kernel_rfl) (by simp) ?_
              refine AllReadyH.cons rfl (fun Kc hKc => ?_) AllReadyH.nil
              go_simp; go_at_call 14
              have Eq2 : Ext w105 (wa2.alloc (.cells #[.slice none 0 0, .slice none 0 0, .slice none 0 0] 31)) := (Ea2.alloc _); (with_reducible refine (contractPair_any HR.out Tt.out Td.out J _ _ _ (wa2.alloc (.cells #[.slice none 0 0, .slice none 0 0, .slice none 0 0] 31)) ((ot.tens.ext (h104.trans h105)).ext Eq2) (od.tens.ext Eq2) (oj.ints.ext ((Ext.refl wa2).alloc _))).mono ?_); rintro ea3 wa3 ⟨v3, rfl, oa, ha3⟩; have Ea3 : Ext w105 wa3 := Eq2.trans ha3; have xa3_0 := Ea3.cell ir0_105; have xa3_1 := Ea3.cell ir1_105; have xa3_2 := Ea3.cell ir2_105; have xa3_3 := Ea3.cell it0_105; have xa3_4 := Ea3.cell it1_105; have xa3_5 := Ea3.cell it2_105; have xa3_6 := Ea3.cell id0_105; have xa3_7 := Ea3.cell id1_105; have xa3_8 := Ea3.cell id2_105; have ha3zs := Ea3.size; have Y3 : Blk wa3 (wa2.heap.size) 31 [.slice none 0 0, .slice none 0 0, .slice none 0 0] := (Blk.newB (w := wa2) (c := #[.slice none 0 0, .slice none 0 0, .slice none 0 0]) (b := wa2.heap.size) (by simp)).ext ha3; have ltY3 := Y3.lt; rw [← HJ.out, HRN.out.1] at oa; obtain ⟨ap1, an1, ac1, ap2, an2, ac2, ap3, an3, ac3, rfl⟩ := oa.shape; have o4m := oa.mono (B' := w105.heap.size) Eq2.size; have o5m := oa.mono (B' := wa2.heap.size + 1) (by first | (simp; done) | (simp; omega) | omega); have fb_0 := Y3.free 0; have yb_0 := Y3.cell (j := 0) rfl; have fb_1 := Y3.free 1; have yb_1 := Y3.cell (j := 1) rfl; have fb_2 := Y3.free 2; have yb_2 := Y3.cell (j := 2) rfl; have ylb := Y3.lt; have hn3_0_0 : w1.heap.size ≠ wa3.heap.size := (by omega); have hn3_1_0 : w1.heap.size ≠ wa3.heap.size + 1 := (by omega); have hn3_0_1 : w3.heap.size ≠ wa3.heap.size := (by omega); have hn3_1_1 : w3.heap.size ≠ wa3.heap.size + 1 := (by omega); have hn3_0_2 : bu105 ≠ wa3.heap.size := (by omega); have hn3_1_2 : bu105 ≠ wa3.heap.size + 1 := (by omega)
              (try go_simp)
              refine hKc.out _ _ ?_ (fun hHeld => ?_) <;> clear hKc Kc
              · (with_reducible exact ⟨xa3_0, xa3_1, xa3_2, xa3_3, xa3_4, xa3_5, xa3_6, xa3_7, xa3_8⟩)
              refine wpAnyH_take (i := 10) (v := ?_) rfl (by kernel_rfl) (by kernel_rfl) (by kernel_rfl) (fun _ _ _ h => h) (Or.inl ⟨by rfl, ?_⟩) (by assumption) ?_
              rotate_left
              · intro w hSw; (try dsimp only at hSw); go_simp; (try with_reducible rfl)
              (try go_simp)
              refine wpAnyH_take (i := 11) (v := ?_) rfl (by kernel_rfl) (by kernel_rfl) (by kernel_rfl) (fun _ _ _ h => h) (Or.inl ⟨by rfl, ?_⟩) (by assumption) ?_
              rotate_left
              · intro w hSw; (try dsimp only at hSw); go_simp; (try with_reducible rfl)
              (try go_simp)
              refine wpAnyH_take (i := 12) (v := ?_) rfl (by kernel_rfl) (by kernel_rfl) (by kernel_rfl) (fun _ _ _ h => h) (Or.inl ⟨by rfl, ?_⟩) (by assumption) ?_
              rotate_left
              · intro w hSw; (try dsimp only at hSw); go_simp; (try with_reducible rfl)
              (try go_simp)
              refine wpAnyH_ready (rs := [14]) (by kernel_rfl) (by simp) ?_
              refine AllReadyH.cons rfl (fun Kc hKc => ?_) AllReadyH.nil
              go_simp
              refine hKc.out _ _ ?_ (fun hHeld => ?_) <;> clear hKc Kc
              · (with_reducible exact ⟨grown_cell (b := wa2.heap.size) (grown_setCell (grown_setCell (grown_setCell (grown_refl _ _) _ _) _ _) _ _) hn2_0_0 xa3_0, grown_cell (b := wa2.heap.size) (grown_setCell (grown_setCell (grown_setCell (grown_refl _ _) _ _) _ _) _ _) hn2_0_0 xa3_1, grown_cell (b := wa2.heap.size) (grown_setCell (grown_setCell (grown_setCell (grown_refl _ _) _ _) _ _) _ _) hn2_0_0 xa3_2, grown_cell (b := wa2.heap.size) (grown_setCell (grown_setCell (grown_setCell (grown_refl _ _) _ _) _ _) _ _) hn2_0_1 xa3_3, grown_cell (b := wa2.heap.size) (grown_setCell (grown_setCell (grown_setCell (grown_refl _ _) _ _) _ _) _ _) hn2_0_1 xa3_4, grown_cell (b := wa2.heap.size) (grown_setCell (grown_setCell (grown_setCell (grown_refl _ _) _ _) _ _) _ _) hn2_0_1 xa3_5, grown_cell (b := wa2.heap.size) (grown_setCell (grown_setCell (grown_setCell (grown_refl _ _) _ _) _ _) _ _) hn2_0_2 xa3_6, grown_cell (b := wa2.heap.size) (grown_setCell (grown_setCell (grown_setCell (grown_refl _ _) _ _) _ _) _ _) hn2_0_2 xa3_7, grown_cell (b := wa2.heap.size) (grown_setCell (grown_setCell (grown_setCell (grown_refl _ _) _ _) _ _) _ _) hn2_0_2 xa3_8⟩)
              refine wpAnyH_ready (rs := [15]) (by kernel_rfl) (by simp) ?_
              refine AllReadyH.cons rfl (fun Kc hKc => ?_) AllReadyH.nil
              go_simp
              refine hKc.out _ _ ?_ (fun hHeld => ?_) <;> clear hKc Kc
              · (with_reducible exact ⟨grown_cell (b := wa2.heap.size) (grown_setCell (grown_setCell (grown_setCell (grown_refl _ _) _ _) _ _) _ _) hn2_0_0 xa3_0, grown_cell (b := wa2.heap.size) (grown_setCell (grown_setCell (grown_setCell (grown_refl _ _) _ _) _ _) _ _) hn2_0_0 xa3_1, grown_cell (b := wa2.heap.size) (grown_setCell (grown_setCell (grown_setCell (grown_refl _ _) _ _) _ _) _ _) hn2_0_0 xa3_2, grown_cell (b := wa2.heap.size) (grown_setCell (grown_setCell (grown_setCell (grown_refl _ _) _ _) _ _) _ _) hn2_0_1 xa3_3, grown_cell (b := wa2.heap.size) (grown_setCell (grown_setCell (grown_setCell (grown_refl _ _) _ _) _ _) _ _) hn2_0_1 xa3_4, grown_cell (b := wa2.heap.size) (grown_setCell (grown_setCell (grown_setCell (grown_refl _ _) _ _) _ _) _ _) hn2_0_1 xa3_5, grown_cell (b := wa2.heap.size) (grown_setCell (grown_setCell (grown_setCell (grown_refl _ _) _ _) _ _) _ _) hn2_0_2 xa3_6, grown_cell (b := wa2.heap.size) (grown_setCell (grown_setCell (grown_setCell (grown_refl _ _) _ _) _ _) _ _) hn2_0_2 xa3_7, grown_cell (b := wa2.heap.size) (grown_setCell (grown_setCell (grown_setCell (grown_refl _ _) _ _) _ _) _ _) hn2_0_2 xa3_8⟩)
              refine wpAnyH_done (by kernel_rfl) ?_ _
              go_wp2_with fail
              go_meet
              exact ⟨wa2.heap.size, ap1, an1, ac1, ap2, an2, ac2, ap3, an3, ac3, rfl, rfl, (((Y3.set 0 (.slice ap1 an1 ac1)).set 1 (.slice ap2 an2 ac2)).set 2 (.slice ap3 an3 ac3)), (((Ea3.setAt (by omega) _ _).setAt (by omega) _ _).setAt (by omega) _ _), (((o5m.setBelow (p := ⟨wa2.heap.size, 0, none⟩) (Nat.lt_succ_self _) _).setBelow (p := ⟨wa2.heap.size, 1, none⟩) (Nat.lt_succ_self _) _).setBelow (p := ⟨wa2.heap.size, 2, none⟩) (Nat.lt_succ_self _) _).mono (by omega)⟩
            refine AllReadyH.cons rfl (fun Kc hKc => ?_) AllReadyH.nil
            go_simp
            refine hKc.out _ _ ?_ (fun hHeld => ?_) <;> clear hKc Kc
            · (with_reducible exact ⟨((Ext.refl wa1).alloc _).cell xa1_0, ((Ext.refl wa1).alloc _).cell xa1_1, ((Ext.refl wa1).alloc _).cell xa1_2, ((Ext.refl wa1).alloc _).cell xa1_3, ((Ext.refl wa1).alloc _).cell xa1_4, ((Ext.refl wa1).alloc _).cell xa1_5, ((Ext.refl wa1).alloc _).cell xa1_6, ((Ext.refl wa1).alloc _).cell xa1_7, ((Ext.refl wa1).alloc _).cell xa1_8⟩)
            refine wpAnyH_ready (rs := [8]) (by kernel_rfl) (by simp) ?_
            refine AllReadyH.cons rfl (fun Kc hKc => ?_) AllReadyH.nil
            go_simp; go_at_call 21
            have Eq1 : Ext w105 (wa1.alloc (.cells #[.slice none 0 0, .slice none 0 0, .slice none 0 0] 31)) := (Ea1.alloc _); have su0 : IntS (wa1.alloc (.cells #[.slice none 0 0, .slice none 0 0, .slice none 0 0] 31)) (.slice (some ⟨w105.heap.size, 0, none⟩) 1 1) [50] := ((sf0_1.ext ((Ext.refl _).alloc _))); (with_reducible refine (lawsJoin_any _ _ L [50] (wa1.alloc (.cells #[.slice none 0 0, .slice none 0 0, .slice none 0 0] 31)) (oc.ints.ext ((Ext.refl wa1).alloc _)) su0 (by have := HL3.out; omega) (by simp)).mono ?_); rintro ea2 wa2 ⟨vj, rfl, oj, ha2⟩; have Ea2 : Ext w105 wa2 := Eq1.trans ha2; have xa2_0 := Ea2.cell ir0_105; have xa2_1 := Ea2.cell ir1_105; have xa2_2 := Ea2.cell ir2_105; have xa2_3 := Ea2.cell it0_105; have xa2_4 := Ea2.cell it1_105; have xa2_5 := Ea2.cell it2_105; have xa2_6 := Ea2.cell id0_105; have xa2_7 := Ea2.cell id1_105; have xa2_8 := Ea2.cell id2_105; have ha2zs := Ea2.size; have Y2 : Blk wa2 (wa1.heap.size) 31 [.slice none 0 0, .slice none 0 0, .slice none 0 0] := (Blk.newB (w := wa1) (c := #[.slice none 0 0, .slice none 0 0, .slice none 0 0]) (b := wa1.heap.size) (by simp)).ext ha2; have ltY2 := Y2.lt; obtain ⟨J, hJ⟩ : ∃ J, L ++ [50] = J := ⟨_, rfl⟩; rw [hJ] at oj; obtain ⟨aj1, aj2, rfl, _, _⟩ := oj.ints.val; have HJ := Lib.hid hJ; clear hJ; have hn2_0_0 : w1.heap.size ≠ wa2.heap.size := (by omega); have hn2_1_0 : w1.heap.size ≠ wa2.heap.size + 1 := (by omega); have hn2_0_1 : w3.heap.size ≠ wa2.heap.size := (by omega); have hn2_1_1 : w3.heap.size ≠ wa2.heap.size + 1 := (by omega); have hn2_0_2 : bu105 ≠ wa2.heap.size := (by omega); have hn2_1_2 : bu105 ≠ wa2.heap.size + 1 := (by omega)
            (try go_simp)
            refine hKc.out _ _ ?_ (fun hHeld => ?_) <;> clear hKc Kc
            · (with_reducible exact ⟨xa2_0, xa2_1, xa2_2, xa2_3, xa2_4, xa2_5, xa2_6, xa2_7, xa2_8⟩)
            refine wpAnyH_ready (rs := [9]) (by kernel_rfl) (by simp) ?_
            refine AllReadyH.cons rfl (fun Kc hKc => ?_) AllReadyH.nil
            go_simp; go_at_call 14
            have Eq2 : Ext w105 wa2 := Ea2; (with_reducible refine (contractPair_any HR.out Tt.out Td.out J _ _ _ wa2 ((ot.tens.ext (h104.trans h105)).ext Eq2) (od.tens.ext Eq2) (oj.ints.ext (Ext.refl wa2))).mono ?_); rintro ea3 wa3 ⟨v3, rfl, oa, ha3⟩; have Ea3 : Ext w105 wa3 := Eq2.trans ha3; have xa3_0 := Ea3.cell ir0_105; have xa3_1 := Ea3.cell ir1_105; have xa3_2 := Ea3.cell ir2_105; have xa3_3 := Ea3.cell it0_105; have xa3_4 := Ea3.cell it1_105; have xa3_5 := Ea3.cell it2_105; have xa3_6 := Ea3.cell id0_105; have xa3_7 := Ea3.cell id1_105; have xa3_8 := Ea3.cell id2_105; have ha3zs := Ea3.size; have Y3 : Blk wa3 (wa1.heap.size) 31 [.slice none 0 0, .slice none 0 0, .slice none 0 0] := Y2.ext ha3; have ltY3 := Y3.lt; rw [← HJ.out, HRN.out.1] at oa; obtain ⟨ap1, an1, ac1, ap2, an2, ac2, ap3, an3, ac3, rfl⟩ := oa.shape; have o4m := oa.mono (B' := w105.heap.size) Eq2.size; have o5m := oa.mono (B' := wa1.heap.size + 1) (by first | (simp; done) | (simp; omega) | omega); have fb_0 := Y3.free 0; have yb_0 := Y3.cell (j := 0) rfl; have fb_1 := Y3.free 1; have yb_1 := Y3.cell (j := 1) rfl; have fb_2 := Y3.free 2; have yb_2 := Y3.cell (j := 2) rfl; have ylb := Y3.lt; have hn3_0_0 : w1.heap.size ≠ wa3.heap.size := (by omega); have hn3_1_0 : w1.heap.size ≠ wa3.heap.size + 1 := (by omega); have hn3_0_1 : w3.heap.size ≠ wa3.heap.size := (by omega); have hn3_1_1 : w3.heap.size ≠ wa3.heap.size + 1 := (by omega); have hn3_0_2 : bu105 ≠ wa3.heap.size := (by omega); have hn3_1_2 : bu105 ≠ wa3.heap.size + 1 := (by omega)
            (try go_simp)
            refine hKc.out _ _ ?_ (fun hHeld => ?_) <;> clear hKc Kc
            · (with_reducible exact ⟨xa3_0, xa3_1, xa3_2, xa3_3, xa3_4, xa3_5, xa3_6, xa3_7, xa3_8⟩)
            refine wpAnyH_take (i := 10) (v := ?_) rfl (by kernel_rfl) (by kernel_rfl) (by kernel_rfl) (fun _ _ _ h => h) (Or.inl ⟨by rfl, ?_⟩) (by assumption) ?_
            rotate_left
            · intro w hSw; (try dsimp only at hSw); go_simp; (try with_reducible rfl)
            (try go_simp)
            refine wpAnyH_take (i := 11) (v := ?_) rfl (by kernel_rfl) (by kernel_rfl) (by kernel_rfl) (fun _ _ _ h => h) (Or.inl ⟨by rfl, ?_⟩) (by assumption) ?_
            rotate_left
            · intro w hSw; (try dsimp only at hSw); go_simp; (try with_reducible rfl)
            (try go_simp)
            refine wpAnyH_take (i := 12) (v := ?_) rfl (by kernel_rfl) (by kernel_rfl) (by kernel_rfl) (fun _ _ _ h => h) (Or.inl ⟨by rfl, ?_⟩) (by assumption) ?_
            rotate_left
            · intro w hSw; (try dsimp only at hSw); go_simp; (try with_reducible rfl)
            (try go_simp)
            refine wpAnyH_ready (rs := [14]) (by kernel_rfl) (by simp) ?_
            refine AllReadyH.cons rfl (fun Kc hKc => ?_) AllReadyH.nil
            go_simp
            refine hKc.out _ _ ?_ (fun hHeld => ?_) <;> clear hKc Kc
            · (with_reducible exact ⟨grown_cell (b := wa1.heap.size) (grown_setCell (grown_setCell (grown_setCell (grown_refl _ _) _ _) _ _) _ _) hn1_0_0 xa3_0, grown_cell (b := wa1.heap.size) (grown_setCell (grown_setCell (grown_setCell (grown_refl _ _) _ _) _ _) _ _) hn1_0_0 xa3_1, grown_cell (b := wa1.heap.size) (grown_setCell (grown_setCell (grown_setCell (grown_refl _ _) _ _) _ _) _ _) hn1_0_0 xa3_2, grown_cell (b := wa1.heap.size) (grown_setCell (grown_setCell (grown_setCell (grown_refl _ _) _ _) _ _) _ _) hn1_0_1 xa3_3, grown_cell (b := wa1.heap.size) (grown_setCell (grown_setCell (grown_setCell (grown_refl _ _) _ _) _ _) _ _) hn1_0_1 xa3_4, grown_cell (b := wa1.heap.size) (grown_setCell (grown_setCell (grown_setCell (grown_refl _ _) _ _) _ _) _ _) hn1_0_1 xa3_5, grown_cell (b := wa1.heap.size) (grown_setCell (grown_setCell (grown_setCell (grown_refl _ _) _ _) _ _) _ _) hn1_0_2 xa3_6, grown_cell (b := wa1.heap.size) (grown_setCell (grown_setCell (grown_setCell (grown_refl _ _) _ _) _ _) _ _) hn1_0_2 xa3_7, grown_cell (b := wa1.heap.size) (grown_setCell (grown_setCell (grown_setCell (grown_refl _ _) _ _) _ _) _ _) hn1_0_2 xa3_8⟩)
            refine wpAnyH_ready (rs := [15]) (by kernel_rfl) (by simp) ?_
            refine AllReadyH.cons rfl (fun Kc hKc => ?_) AllReadyH.nil
            go_simp
            refine hKc.out _ _ ?_ (fun hHeld => ?_) <;> clear hKc Kc
            · (with_reducible exact ⟨grown_cell (b := wa1.heap.size) (grown_setCell (grown_setCell (grown_setCell (grown_refl _ _) _ _) _ _) _ _) hn1_0_0 xa3_0, grown_cell (b := wa1.heap.size) (grown_setCell (grown_setCell (grown_setCell (grown_refl _ _) _ _) _ _) _ _) hn1_0_0 xa3_1, grown_cell (b := wa1.heap.size) (grown_setCell (grown_setCell (grown_setCell (grown_refl _ _) _ _) _ _) _ _) hn1_0_0 xa3_2, grown_cell (b := wa1.heap.size) (grown_setCell (grown_setCell (grown_setCell (grown_refl _ _) _ _) _ _) _ _) hn1_0_1 xa3_3, grown_cell (b := wa1.heap.size) (grown_setCell (grown_setCell (grown_setCell (grown_refl _ _) _ _) _ _) _ _) hn1_0_1 xa3_4, grown_cell (b := wa1.heap.size) (grown_setCell (grown_setCell (grown_setCell (grown_refl _ _) _ _) _ _) _ _) hn1_0_1 xa3_5, grown_cell (b := wa1.heap.size) (grown_setCell (grown_setCell (grown_setCell (grown_refl _ _) _ _) _ _) _ _) hn1_0_2 xa3_6, grown_cell (b := wa1.heap.size) (grown_setCell (grown_setCell (grown_setCell (grown_refl _ _) _ _) _ _) _ _) hn1_0_2 xa3_7, grown_cell (b := wa1.heap.size) (grown_setCell (grown_setCell (grown_setCell (grown_refl _ _) _ _) _ _) _ _) hn1_0_2 xa3_8⟩)
            refine wpAnyH_done (by kernel_rfl) ?_ _
            go_wp2_with fail
            go_meet
            exact ⟨wa1.heap.size, ap1, an1, ac1, ap2, an2, ac2, ap3, an3, ac3, rfl, rfl, (((Y3.set 0 (.slice ap1 an1 ac1)).set 1 (.slice ap2 an2 ac2)).set 2 (.slice ap3 an3 ac3)), (((Ea3.setAt (by omega) _ _).setAt (by omega) _ _).setAt (by omega) _ _), (((o5m.setBelow (p := ⟨wa1.heap.size, 0, none⟩) (Nat.lt_succ_self _) _).setBelow (p := ⟨wa1.heap.size, 1, none⟩) (Nat.lt_succ_self _) _).setBelow (p := ⟨wa1.heap.size, 2, none⟩) (Nat.lt_succ_self _) _).mono (by omega)⟩
          refine AllReadyH.cons rfl (fun Kc hKc => ?_) AllReadyH.nil
          go_simp
          refine hKc.out _ _ ?_ (fun hHeld => ?_) <;> clear hKc Kc
          · (with_reducible exact ⟨((((Ext.refl w105).alloc _).alloc _).drew).cell ir0_105, ((((Ext.refl w105).alloc _).alloc _).drew).cell ir1_105, ((((Ext.refl w105).alloc _).alloc _).drew).cell ir2_105, ((((Ext.refl w105).alloc _).alloc _).drew).cell it0_105, ((((Ext.refl w105).alloc _).alloc _).drew).cell it1_105, ((((Ext.refl w105).alloc _).alloc _).drew).cell it2_105, ((((Ext.refl w105).alloc _).alloc _).drew).cell id0_105, ((((Ext.refl w105).alloc _).alloc _).drew).cell id1_105, ((((Ext.refl w105).alloc _).alloc _).drew).cell id2_105⟩)
          refine wpAnyH_ready (rs := [6]) (by kernel_rfl) (by simp) ?_
          refine AllReadyH.cons rfl (fun Kc hKc => ?_) AllReadyH.nil
          go_simp; go_at_call 36
          have Eq0 : Ext w105 ((w105.alloc (.cells #[.int .i64 50] 3)).alloc (.cells #[.slice none 0 0, .slice none 0 0, .slice none 0 0] 31)).drew := ((((Ext.refl w105).alloc _).alloc _).drew); (with_reducible refine (lawsCut_any _ (x :: L) x ((w105.alloc (.cells #[.int .i64 50] 3)).alloc (.cells #[.slice none 0 0, .slice none 0 0, .slice none 0 0] 31)).drew ((ot.tens.ext (h104.trans h105)).labsP.ext Eq0) (by have := HL3.out; simp; omega)).mono ?_); rintro ea1 wa1 ⟨vc, rfl, oc, ha1⟩; have Ea1 : Ext w105 wa1 := Eq0.trans ha1; have xa1_0 := Ea1.cell ir0_105; have xa1_1 := Ea1.cell ir1_105; have xa1_2 := Ea1.cell ir2_105; have xa1_3 := Ea1.cell it0_105; have xa1_4 := Ea1.cell it1_105; have xa1_5 := Ea1.cell it2_105; have xa1_6 := Ea1.cell id0_105; have xa1_7 := Ea1.cell id1_105; have xa1_8 := Ea1.cell id2_105; have ha1zs := Ea1.size; have sf0_1 : IntS wa1 (.slice (some ⟨w105.heap.size, 0, none⟩) 1 1) [50] := (((OwnI.of (B := 0) (l := [50]) (Nat.zero_le _) (Blk.newB (w := w105) (c := #[.int .i64 50]) (b := w105.heap.size) (by simp)) (by simp [maxLen])).ints.ext ((Ext.refl _).alloc _)).ext ((Ext.refl _).drew)).ext ha1; have Y1 : Blk wa1 (w105.heap.size + 1) 31 [.slice none 0 0, .slice none 0 0, .slice none 0 0] := ((Blk.newB (w := (w105.alloc (.cells #[.int .i64 50] 3))) (c := #[.slice none 0 0, .slice none 0 0, .slice none 0 0]) (b := w105.heap.size + 1) (by simp)).ext ((Ext.refl _).drew)).ext ha1; have ltY1 := Y1.lt; rw [cutL_head HXN.out] at oc; obtain ⟨ac1, ac2, rfl, _, _⟩ := oc.ints.val; have hn1_0_0 : w1.heap.size ≠ wa1.heap.size := (by omega); have hn1_1_0 : w1.heap.size ≠ wa1.heap.size + 1 := (by omega); have hn1_0_1 : w3.heap.size ≠ wa1.heap.size := (by omega); have hn1_1_1 : w3.heap.size ≠ wa1.heap.size + 1 := (by omega); have hn1_0_2 : bu105 ≠ wa1.heap.size := (by omega); have hn1_1_2 : bu105 ≠ wa1.heap.size + 1 := (by omega)
          (try go_simp)
          refine hKc.out _ _ ?_ (fun hHeld => ?_) <;> clear hKc Kc
          · (with_reducible exact ⟨xa1_0, xa1_1, xa1_2, xa1_3, xa1_4, xa1_5, xa1_6, xa1_7, xa1_8⟩)
          refine wpAnyH_ready (rs := [8]) (by kernel_rfl) (by simp) ?_
          refine AllReadyH.cons rfl (fun Kc hKc => ?_) AllReadyH.nil
          go_simp; go_at_call 21
          have Eq1 : Ext w105 wa1 := Ea1; have su0 : IntS wa1 (.slice (some ⟨w105.heap.size, 0, none⟩) 1 1) [50] := (sf0_1); (with_reducible refine (lawsJoin_any _ _ L [50] wa1 (oc.ints.ext (Ext.refl wa1)) su0 (by have := HL3.out; omega) (by simp)).mono ?_); rintro ea2 wa2 ⟨vj, rfl, oj, ha2⟩; have Ea2 : Ext w105 wa2 := Eq1.trans ha2; have xa2_0 := Ea2.cell ir0_105; have xa2_1 := Ea2.cell ir1_105; have xa2_2 := Ea2.cell ir2_105; have xa2_3 := Ea2.cell it0_105; have xa2_4 := Ea2.cell it1_105; have xa2_5 := Ea2.cell it2_105; have xa2_6 := Ea2.cell id0_105; have xa2_7 := Ea2.cell id1_105; have xa2_8 := Ea2.cell id2_105; have ha2zs := Ea2.size; have Y2 : Blk wa2 (w105.heap.size + 1) 31 [.slice none 0 0, .slice none 0 0, .slice none 0 0] := Y1.ext ha2; have ltY2 := Y2.lt; obtain ⟨J, hJ⟩ : ∃ J, L ++ [50] = J := ⟨_, rfl⟩; rw [hJ] at oj; obtain ⟨aj1, aj2, rfl, _, _⟩ := oj.ints.val; have HJ := Lib.hid hJ; clear hJ; have hn2_0_0 : w1.heap.size ≠ wa2.heap.size := (by omega); have hn2_1_0 : w1.heap.size ≠ wa2.heap.size + 1 := (by omega); have hn2_0_1 : w3.heap.size ≠ wa2.heap.size := (by omega); have hn2_1_1 : w3.heap.size ≠ wa2.heap.size + 1 := (by omega); have hn2_0_2 : bu105 ≠ wa2.heap.size := (by omega); have hn2_1_2 : bu105 ≠ wa2.heap.size + 1 := (by omega)
          (try go_simp)
          refine hKc.out _ _ ?_ (fun hHeld => ?_) <;> clear hKc Kc
          · (with_reducible exact ⟨xa2_0, xa2_1, xa2_2, xa2_3, xa2_4, xa2_5, xa2_6, xa2_7, xa2_8⟩)
          refine wpAnyH_ready (rs := [9]) (by kernel_rfl) (by simp) ?_
          refine AllReadyH.cons rfl (fun Kc hKc => ?_) AllReadyH.nil
          go_simp; go_at_call 14
          have Eq2 : Ext w105 wa2 := Ea2; (with_reducible refine (contractPair_any HR.out Tt.out Td.out J _ _ _ wa2 ((ot.tens.ext (h104.trans h105)).ext Eq2) (od.tens.ext Eq2) (oj.ints.ext (Ext.refl wa2))).mono ?_); rintro ea3 wa3 ⟨v3, rfl, oa, ha3⟩; have Ea3 : Ext w105 wa3 := Eq2.trans ha3; have xa3_0 := Ea3.cell ir0_105; have xa3_1 := Ea3.cell ir1_105; have xa3_2 := Ea3.cell ir2_105; have xa3_3 := Ea3.cell it0_105; have xa3_4 := Ea3.cell it1_105; have xa3_5 := Ea3.cell it2_105; have xa3_6 := Ea3.cell id0_105; have xa3_7 := Ea3.cell id1_105; have xa3_8 := Ea3.cell id2_105; have ha3zs := Ea3.size; have Y3 : Blk wa3 (w105.heap.size + 1) 31 [.slice none 0 0, .slice none 0 0, .slice none 0 0] := Y2.ext ha3; have ltY3 := Y3.lt; rw [← HJ.out, HRN.out.1] at oa; obtain ⟨ap1, an1, ac1, ap2, an2, ac2, ap3, an3, ac3, rfl⟩ := oa.shape; have o4m := oa.mono (B' := w105.heap.size) Eq2.size; have o5m := oa.mono (B' := w105.heap.size + 1 + 1) (by first | (simp; done) | (simp; omega) | omega); have fb_0 := Y3.free 0; have yb_0 := Y3.cell (j := 0) rfl; have fb_1 := Y3.free 1; have yb_1 := Y3.cell (j := 1) rfl; have fb_2 := Y3.free 2; have yb_2 := Y3.cell (j := 2) rfl; have ylb := Y3.lt; have hn3_0_0 : w1.heap.size ≠ wa3.heap.size := (by omega); have hn3_1_0 : w1.heap.size ≠ wa3.heap.size + 1 := (by omega); have hn3_0_1 : w3.heap.size ≠ wa3.heap.size := (by omega); have hn3_1_1 : w3.heap.size ≠ wa3.heap.size + 1 := (by omega); have hn3_0_2 : bu105 ≠ wa3.heap.size := (by omega); have hn3_1_2 : bu105 ≠ wa3.heap.size + 1 := (by omega)
          (try go_simp)
          refine hKc.out _ _ ?_ (fun hHeld => ?_) <;> clear hKc Kc
          · (with_reducible exact ⟨xa3_0, xa3_1, xa3_2, xa3_3, xa3_4, xa3_5, xa3_6, xa3_7, xa3_8⟩)
          refine wpAnyH_take (i := 10) (v := ?_) rfl (by kernel_rfl) (by kernel_rfl) (by kernel_rfl) (fun _ _ _ h => h) (Or.inl ⟨by rfl, ?_⟩) (by assumption) ?_
          rotate_left
          · intro w hSw; (try dsimp only at hSw); go_simp; (try with_reducible rfl)
          (try go_simp)
          refine wpAnyH_take (i := 11) (v := ?_) rfl (by kernel_rfl) (by kernel_rfl) (by kernel_rfl) (fun _ _ _ h => h) (Or.inl ⟨by rfl, ?_⟩) (by assumption) ?_
          rotate_left
          · intro w hSw; (try dsimp only at hSw); go_simp; (try with_reducible rfl)
          (try go_simp)
          refine wpAnyH_take (i := 12) (v := ?_) rfl (by kernel_rfl) (by kernel_rfl) (by kernel_rfl) (fun _ _ _ h => h) (Or.inl ⟨by rfl, ?_⟩) (by assumption) ?_
          rotate_left
          · intro w hSw; (try dsimp only at hSw); go_simp; (try with_reducible rfl)
          (try go_simp)
          refine wpAnyH_ready (rs := [14]) (by kernel_rfl) (by simp) ?_
          refine AllReadyH.cons rfl (fun Kc hKc => ?_) AllReadyH.nil
          go_simp
          refine hKc.out _ _ ?_ (fun hHeld => ?_) <;> clear hKc Kc
          · (with_reducible exact ⟨grown_cell (b := w105.heap.size + 1) (grown_setCell (grown_setCell (grown_setCell (grown_refl _ _) _ _) _ _) _ _) hn0_1_0 xa3_0, grown_cell (b := w105.heap.size + 1) (grown_setCell (grown_setCell (grown_setCell (grown_refl _ _) _ _) _ _) _ _) hn0_1_0 xa3_1, grown_cell (b := w105.heap.size + 1) (grown_setCell (grown_setCell (grown_setCell (grown_refl _ _) _ _) _ _) _ _) hn0_1_0 xa3_2, grown_cell (b := w105.heap.size + 1) (grown_setCell (grown_setCell (grown_setCell (grown_refl _ _) _ _) _ _) _ _) hn0_1_1 xa3_3, grown_cell (b := w105.heap.size + 1) (grown_setCell (grown_setCell (grown_setCell (grown_refl _ _) _ _) _ _) _ _) hn0_1_1 xa3_4, grown_cell (b := w105.heap.size + 1) (grown_setCell (grown_setCell (grown_setCell (grown_refl _ _) _ _) _ _) _ _) hn0_1_1 xa3_5, grown_cell (b := w105.heap.size + 1) (grown_setCell (grown_setCell (grown_setCell (grown_refl _ _) _ _) _ _) _ _) hn0_1_2 xa3_6, grown_cell (b := w105.heap.size + 1) (grown_setCell (grown_setCell (grown_setCell (grown_refl _ _) _ _) _ _) _ _) hn0_1_2 xa3_7, grown_cell (b := w105.heap.size + 1) (grown_setCell (grown_setCell (grown_setCell (grown_refl _ _) _ _) _ _) _ _) hn0_1_2 xa3_8⟩)
          refine wpAnyH_ready (rs := [15]) (by kernel_rfl) (by simp) ?_
          refine AllReadyH.cons rfl (fun Kc hKc => ?_) AllReadyH.nil
          go_simp
          refine hKc.out _ _ ?_ (fun hHeld => ?_) <;> clear hKc Kc
          · (with_reducible exact ⟨grown_cell (b := w105.heap.size + 1) (grown_setCell (grown_setCell (grown_setCell (grown_refl _ _) _ _) _ _) _ _) hn0_1_0 xa3_0, grown_cell (b := w105.heap.size + 1) (grown_setCell (grown_setCell (grown_setCell (grown_refl _ _) _ _) _ _) _ _) hn0_1_0 xa3_1, grown_cell (b := w105.heap.size + 1) (grown_setCell (grown_setCell (grown_setCell (grown_refl _ _) _ _) _ _) _ _) hn0_1_0 xa3_2, grown_cell (b := w105.heap.size + 1) (grown_setCell (grown_setCell (grown_setCell (grown_refl _ _) _ _) _ _) _ _) hn0_1_1 xa3_3, grown_cell (b := w105.heap.size + 1) (grown_setCell (grown_setCell (grown_setCell (grown_refl _ _) _ _) _ _) _ _) hn0_1_1 xa3_4, grown_cell (b := w105.heap.size + 1) (grown_setCell (grown_setCell (grown_setCell (grown_refl _ _) _ _) _ _) _ _) hn0_1_1 xa3_5, grown_cell (b := w105.heap.size + 1) (grown_setCell (grown_setCell (grown_setCell (grown_refl _ _) _ _) _ _) _ _) hn0_1_2 xa3_6, grown_cell (b := w105.heap.size + 1) (grown_setCell (grown_setCell (grown_setCell (grown_refl _ _) _ _) _ _) _ _) hn0_1_2 xa3_7, grown_cell (b := w105.heap.size + 1) (grown_setCell (grown_setCell (grown_setCell (grown_refl _ _) _ _) _ _) _ _) hn0_1_2 xa3_8⟩)
          refine wpAnyH_done (by kernel_rfl) ?_ _
          go_wp2_with fail
          go_meet
          exact ⟨w105.heap.size + 1, ap1, an1, ac1, ap2, an2, ac2, ap3, an3, ac3, rfl, rfl, (((Y3.set 0 (.slice ap1 an1 ac1)).set 1 (.slice ap2 an2 ac2)).set 2 (.slice ap3 an3 ac3)), (((Ea3.setAt (by omega) _ _).setAt (by omega) _ _).setAt (by omega) _ _), (((o5m.setBelow (p := ⟨w105.heap.size + 1, 0, none⟩) (Nat.lt_succ_self _) _).setBelow (p := ⟨w105.heap.size + 1, 1, none⟩) (Nat.lt_succ_self _) _).setBelow (p := ⟨w105.heap.size + 1, 2, none⟩) (Nat.lt_succ_self _) _).mono (by omega)⟩
        refine AllReadyH.cons rfl (fun Kc hKc => ?_) AllReadyH.nil
        go_simp
        refine hKc.out _ _ ?_ (fun hHeld => ?_) <;> clear hKc Kc
        · (with_reducible exact ⟨(((Ext.refl w105).alloc _).drew).cell ir0_105, (((Ext.refl w105).alloc _).drew).cell ir1_105, (((Ext.refl w105).alloc _).drew).cell ir2_105, (((Ext.refl w105).alloc _).drew).cell it0_105, (((Ext.refl w105).alloc _).drew).cell it1_105, (((Ext.refl w105).alloc _).drew).cell it2_105, (((Ext.refl w105).alloc _).drew).cell id0_105, (((Ext.refl w105).alloc _).drew).cell id1_105, (((Ext.refl w105).alloc _).drew).cell id2_105⟩)
        refine wpAnyH_ready (rs := [6, 7]) (by kernel_rfl) (by simp) ?_
        refine AllReadyH.cons rfl (fun Kc hKc => ?_) ?_
        · skip
          go_simp; go_at_call 36
          have Eq0 : Ext w105 (w105.alloc (.cells #[.slice none 0 0, .slice none 0 0, .slice none 0 0] 31)).drew := (((Ext.refl w105).alloc _).drew); (with_reducible refine (lawsCut_any _ (x :: L) x (w105.alloc (.cells #[.slice none 0 0, .slice none 0 0, .slice none 0 0] 31)).drew ((ot.tens.ext (h104.trans h105)).labsP.ext Eq0) (by have := HL3.out; simp; omega)).mono ?_); rintro ea1 wa1 ⟨vc, rfl, oc, ha1⟩; have Ea1 : Ext w105 wa1 := Eq0.trans ha1; have xa1_0 := Ea1.cell ir0_105; have xa1_1 := Ea1.cell ir1_105; have xa1_2 := Ea1.cell ir2_105; have xa1_3 := Ea1.cell it0_105; have xa1_4 := Ea1.cell it1_105; have xa1_5 := Ea1.cell it2_105; have xa1_6 := Ea1.cell id0_105; have xa1_7 := Ea1.cell id1_105; have xa1_8 := Ea1.cell id2_105; have ha1zs := Ea1.size; have Y1 : Blk wa1 (w105.heap.size) 31 [.slice none 0 0, .slice none 0 0, .slice none 0 0] := ((Blk.newB (w := w105) (c := #[.slice none 0 0, .slice none 0 0, .slice none 0 0]) (b := w105.heap.size) (by simp)).ext ((Ext.refl _).drew)).ext ha1; have ltY1 := Y1.lt; rw [cutL_head HXN.out] at oc; obtain ⟨ac1, ac2, rfl, _, _⟩ := oc.ints.val; have hn1_0_0 : w1.heap.size ≠ wa1.heap.size := (by omega); have hn1_1_0 : w1.heap.size ≠ wa1.heap.size + 1 := (by omega); have hn1_0_1 : w3.heap.size ≠ wa1.heap.size := (by omega); have hn1_1_1 : w3.heap.size ≠ wa1.heap.size + 1 := (by omega); have hn1_0_2 : bu105 ≠ wa1.heap.size := (by omega); have hn1_1_2 : bu105 ≠ wa1.heap.size + 1 := (by omega)
          (try go_simp)
          refine hKc.out _ _ ?_ (fun hHeld => ?_) <;> clear hKc Kc
          · (with_reducible exact ⟨xa1_0, xa1_1, xa1_2, xa1_3, xa1_4, xa1_5, xa1_6, xa1_7, xa1_8⟩)
          refine wpAnyH_ready (rs := [7]) (by kernel_rfl) (by simp) ?_
          refine AllReadyH.cons rfl (fun Kc hKc => ?_) AllReadyH.nil
          go_simp
          refine hKc.out _ _ ?_ (fun hHeld => ?_) <;> clear hKc Kc
          · (with_reducible exact ⟨((Ext.refl wa1).alloc _).cell xa1_0, ((Ext.refl wa1).alloc _).cell xa1_1, ((Ext.refl wa1).alloc _).cell xa1_2, ((Ext.refl wa1).alloc _).cell xa1_3, ((Ext.refl wa1).alloc _).cell xa1_4, ((Ext.refl wa1).alloc _).cell xa1_5, ((Ext.refl wa1).alloc _).cell xa1_6, ((Ext.refl wa1).alloc _).cell xa1_7, ((Ext.refl wa1).alloc _).cell xa1_8⟩)
          refine wpAnyH_ready (rs := [8]) (by kernel_rfl) (by simp) ?_
          refine AllReadyH.cons rfl (fun Kc hKc => ?_) AllReadyH.nil
          go_simp; go_at_call 21
          have Eq1 : Ext w105 (wa1.alloc (.cells #[.int .i64 50] 3)) := (Ea1.alloc _); have su0 : IntS (wa1.alloc (.cells #[.int .i64 50] 3)) (.slice (some ⟨wa1.heap.size, 0, none⟩) 1 1) [50] := ((OwnI.of (B := 0) (l := [50]) (Nat.zero_le _) (Blk.newB (w := wa1) (c := #[.int .i64 50]) (b := wa1.heap.size) (by simp)) (by simp [maxLen])).ints); (with_reducible refine (lawsJoin_any _ _ L [50] (wa1.alloc (.cells #[.int .i64 50] 3)) (oc.ints.ext ((Ext.refl wa1).alloc _)) su0 (by have := HL3.out; omega) (by simp)).mono ?_); rintro ea2 wa2 ⟨vj, rfl, oj, ha2⟩; have Ea2 : Ext w105 wa2 := Eq1.trans ha2; have xa2_0 := Ea2.cell ir0_105; have xa2_1 := Ea2.cell ir1_105; have xa2_2 := Ea2.cell ir2_105; have xa2_3 := Ea2.cell it0_105; have xa2_4 := Ea2.cell it1_105; have xa2_5 := Ea2.cell it2_105; have xa2_6 := Ea2.cell id0_105; have xa2_7 := Ea2.cell id1_105; have xa2_8 := Ea2.cell id2_105; have ha2zs := Ea2.size; have Y2 : Blk wa2 (w105.heap.size) 31 [.slice none 0 0, .slice none 0 0, .slice none 0 0] := (Y1.ext ((Ext.refl _).alloc _)).ext ha2; have ltY2 := Y2.lt; obtain ⟨J, hJ⟩ : ∃ J, L ++ [50] = J := ⟨_, rfl⟩; rw [hJ] at oj; obtain ⟨aj1, aj2, rfl, _, _⟩ := oj.ints.val; have HJ := Lib.hid hJ; clear hJ; have hn2_0_0 : w1.heap.size ≠ wa2.heap.size := (by omega); have hn2_1_0 : w1.heap.size ≠ wa2.heap.size + 1 := (by omega); have hn2_0_1 : w3.heap.size ≠ wa2.heap.size := (by omega); have hn2_1_1 : w3.heap.size ≠ wa2.heap.size + 1 := (by omega); have hn2_0_2 : bu105 ≠ wa2.heap.size := (by omega); have hn2_1_2 : bu105 ≠ wa2.heap.size + 1 := (by omega)
          (try go_simp)
          refine hKc.out _ _ ?_ (fun hHeld => ?_) <;> clear hKc Kc
          · (with_reducible exact ⟨xa2_0, xa2_1, xa2_2, xa2_3, xa2_4, xa2_5, xa2_6, xa2_7, xa2_8⟩)
          refine wpAnyH_ready (rs := [9]) (by kernel_rfl) (by simp) ?_
          refine AllReadyH.cons rfl (fun Kc hKc => ?_) AllReadyH.nil
          go_simp; go_at_call 14
          have Eq2 : Ext w105 wa2 := Ea2; (with_reducible refine (contractPair_any HR.out Tt.out Td.out J _ _ _ wa2 ((ot.tens.ext (h104.trans h105)).ext Eq2) (od.tens.ext Eq2) (oj.ints.ext (Ext.refl wa2))).mono ?_); rintro ea3 wa3 ⟨v3, rfl, oa, ha3⟩; have Ea3 : Ext w105 wa3 := Eq2.trans ha3; have xa3_0 := Ea3.cell ir0_105; have xa3_1 := Ea3.cell ir1_105; have xa3_2 := Ea3.cell ir2_105; have xa3_3 := Ea3.cell it0_105; have xa3_4 := Ea3.cell it1_105; have xa3_5 := Ea3.cell it2_105; have xa3_6 := Ea3.cell id0_105; have xa3_7 := Ea3.cell id1_105; have xa3_8 := Ea3.cell id2_105; have ha3zs := Ea3.size; have Y3 : Blk wa3 (w105.heap.size) 31 [.slice none 0 0, .slice none 0 0, .slice none 0 0] := Y2.ext ha3; have ltY3 := Y3.lt; rw [← HJ.out, HRN.out.1] at oa; obtain ⟨ap1, an1, ac1, ap2, an2, ac2, ap3, an3, ac3, rfl⟩ := oa.shape; have o4m := oa.mono (B' := w105.heap.size) Eq2.size; have o5m := oa.mono (B' := w105.heap.size + 1) (by first | (simp; done) | (simp; omega) | omega); have fb_0 := Y3.free 0; have yb_0 := Y3.cell (j := 0) rfl; have fb_1 := Y3.free 1; have yb_1 := Y3.cell (j := 1) rfl; have fb_2 := Y3.free 2; have yb_2 := Y3.cell (j := 2) rfl; have ylb := Y3.lt; have hn3_0_0 : w1.heap.size ≠ wa3.heap.size := (by omega); have hn3_1_0 : w1.heap.size ≠ wa3.heap.size + 1 := (by omega); have hn3_0_1 : w3.heap.size ≠ wa3.heap.size := (by omega); have hn3_1_1 : w3.heap.size ≠ wa3.heap.size + 1 := (by omega); have hn3_0_2 : bu105 ≠ wa3.heap.size := (by omega); have hn3_1_2 : bu105 ≠ wa3.heap.size + 1 := (by omega)
          (try go_simp)
          refine hKc.out _ _ ?_ (fun hHeld => ?_) <;> clear hKc Kc
          · (with_reducible exact ⟨xa3_0, xa3_1, xa3_2, xa3_3, xa3_4, xa3_5, xa3_6, xa3_7, xa3_8⟩)
          refine wpAnyH_take (i := 10) (v := ?_) rfl (by kernel_rfl) (by kernel_rfl) (by kernel_rfl) (fun _ _ _ h => h) (Or.inl ⟨by rfl, ?_⟩) (by assumption) ?_
          rotate_left
          · intro w hSw; (try dsimp only at hSw); go_simp; (try with_reducible rfl)
          (try go_simp)
          refine wpAnyH_take (i := 11) (v := ?_) rfl (by kernel_rfl) (by kernel_rfl) (by kernel_rfl) (fun _ _ _ h => h) (Or.inl ⟨by rfl, ?_⟩) (by assumption) ?_
          rotate_left
          · intro w hSw; (try dsimp only at hSw); go_simp; (try with_reducible rfl)
          (try go_simp)
          refine wpAnyH_take (i := 12) (v := ?_) rfl (by kernel_rfl) (by kernel_rfl) (by kernel_rfl) (fun _ _ _ h => h) (Or.inl ⟨by rfl, ?_⟩) (by assumption) ?_
          rotate_left
          · intro w hSw; (try dsimp only at hSw); go_simp; (try with_reducible rfl)
          (try go_simp)
          refine wpAnyH_ready (rs := [14]) (by kernel_rfl) (by simp) ?_
          refine AllReadyH.cons rfl (fun Kc hKc => ?_) AllReadyH.nil
          go_simp
          refine hKc.out _ _ ?_ (fun hHeld => ?_) <;> clear hKc Kc
          · (with_reducible exact ⟨grown_cell (b := w105.heap.size) (grown_setCell (grown_setCell (grown_setCell (grown_refl _ _) _ _) _ _) _ _) hn0_0_0 xa3_0, grown_cell (b := w105.heap.size) (grown_setCell (grown_setCell (grown_setCell (grown_refl _ _) _ _) _ _) _ _) hn0_0_0 xa3_1, grown_cell (b := w105.heap.size) (grown_setCell (grown_setCell (grown_setCell (grown_refl _ _) _ _) _ _) _ _) hn0_0_0 xa3_2, grown_cell (b := w105.heap.size) (grown_setCell (grown_setCell (grown_setCell (grown_refl _ _) _ _) _ _) _ _) hn0_0_1 xa3_3, grown_cell (b := w105.heap.size) (grown_setCell (grown_setCell (grown_setCell (grown_refl _ _) _ _) _ _) _ _) hn0_0_1 xa3_4, grown_cell (b := w105.heap.size) (grown_setCell (grown_setCell (grown_setCell (grown_refl _ _) _ _) _ _) _ _) hn0_0_1 xa3_5, grown_cell (b := w105.heap.size) (grown_setCell (grown_setCell (grown_setCell (grown_refl _ _) _ _) _ _) _ _) hn0_0_2 xa3_6, grown_cell (b := w105.heap.size) (grown_setCell (grown_setCell (grown_setCell (grown_refl _ _) _ _) _ _) _ _) hn0_0_2 xa3_7, grown_cell (b := w105.heap.size) (grown_setCell (grown_setCell (grown_setCell (grown_refl _ _) _ _) _ _) _ _) hn0_0_2 xa3_8⟩)
          refine wpAnyH_ready (rs := [15]) (by kernel_rfl) (by simp) ?_
          refine AllReadyH.cons rfl (fun Kc hKc => ?_) AllReadyH.nil
          go_simp
          refine hKc.out _ _ ?_ (fun hHeld => ?_) <;> clear hKc Kc
          · (with_reducible exact ⟨grown_cell (b := w105.heap.size) (grown_setCell (grown_setCell (grown_setCell (grown_refl _ _) _ _) _ _) _ _) hn0_0_0 xa3_0, grown_cell (b := w105.heap.size) (grown_setCell (grown_setCell (grown_setCell (grown_refl _ _) _ _) _ _) _ _) hn0_0_0 xa3_1, grown_cell (b := w105.heap.size) (grown_setCell (grown_setCell (grown_setCell (grown_refl _ _) _ _) _ _) _ _) hn0_0_0 xa3_2, grown_cell (b := w105.heap.size) (grown_setCell (grown_setCell (grown_setCell (grown_refl _ _) _ _) _ _) _ _) hn0_0_1 xa3_3, grown_cell (b := w105.heap.size) (grown_setCell (grown_setCell (grown_setCell (grown_refl _ _) _ _) _ _) _ _) hn0_0_1 xa3_4, grown_cell (b := w105.heap.size) (grown_setCell (grown_setCell (grown_setCell (grown_refl _ _) _ _) _ _) _ _) hn0_0_1 xa3_5, grown_cell (b := w105.heap.size) (grown_setCell (grown_setCell (grown_setCell (grown_refl _ _) _ _) _ _) _ _) hn0_0_2 xa3_6, grown_cell (b := w105.heap.size) (grown_setCell (grown_setCell (grown_setCell (grown_refl _ _) _ _) _ _) _ _) hn0_0_2 xa3_7, grown_cell (b := w105.heap.size) (grown_setCell (grown_setCell (grown_setCell (grown_refl _ _) _ _) _ _) _ _) hn0_0_2 xa3_8⟩)
          refine wpAnyH_done (by kernel_rfl) ?_ _
          go_wp2_with fail
          go_meet
          exact ⟨w105.heap.size, ap1, an1, ac1, ap2, an2, ac2, ap3, an3, ac3, rfl, rfl, (((Y3.set 0 (.slice ap1 an1 ac1)).set 1 (.slice ap2 an2 ac2)).set 2 (.slice ap3 an3 ac3)), (((Ea3.setAt (Nat.le_refl _) _ _).setAt (Nat.le_refl _) _ _).setAt (Nat.le_refl _) _ _), (((o5m.setBelow (p := ⟨w105.heap.size, 0, none⟩) (Nat.lt_succ_self _) _).setBelow (p := ⟨w105.heap.size, 1, none⟩) (Nat.lt_succ_self _) _).setBelow (p := ⟨w105.heap.size, 2, none⟩) (Nat.lt_succ_self _) _).mono (by omega)⟩
        refine AllReadyH.cons rfl (fun Kc hKc => ?_) AllReadyH.nil
        go_simp
        refine hKc.out _ _ ?_ (fun hHeld => ?_) <;> clear hKc Kc
        · (with_reducible exact ⟨((((Ext.refl w105).alloc _).alloc _).drew).cell ir0_105, ((((Ext.refl w105).alloc _).alloc _).drew).cell ir1_105, ((((Ext.refl w105).alloc _).alloc _).drew).cell ir2_105, ((((Ext.refl w105).alloc _).alloc _).drew).cell it0_105, ((((Ext.refl w105).alloc _).alloc _).drew).cell it1_105, ((((Ext.refl w105).alloc _).alloc _).drew).cell it2_105, ((((Ext.refl w105).alloc _).alloc _).drew).cell id0_105, ((((Ext.refl w105).alloc _).alloc _).drew).cell id1_105, ((((Ext.refl w105).alloc _).alloc _).drew).cell id2_105⟩)
        refine wpAnyH_ready (rs := [6]) (by kernel_rfl) (by simp) ?_
        refine AllReadyH.cons rfl (fun Kc hKc => ?_) AllReadyH.nil
        go_simp; go_at_call 36
        have Eq0 : Ext w105 ((w105.alloc (.cells #[.slice none 0 0, .slice none 0 0, .slice none 0 0] 31)).alloc (.cells #[.int .i64 50] 3)).drew := ((((Ext.refl w105).alloc _).alloc _).drew); (with_reducible refine (lawsCut_any _ (x :: L) x ((w105.alloc (.cells #[.slice none 0 0, .slice none 0 0, .slice none 0 0] 31)).alloc (.cells #[.int .i64 50] 3)).drew ((ot.tens.ext (h104.trans h105)).labsP.ext Eq0) (by have := HL3.out; simp; omega)).mono ?_); rintro ea1 wa1 ⟨vc, rfl, oc, ha1⟩; have Ea1 : Ext w105 wa1 := Eq0.trans ha1; have xa1_0 := Ea1.cell ir0_105; have xa1_1 := Ea1.cell ir1_105; have xa1_2 := Ea1.cell ir2_105; have xa1_3 := Ea1.cell it0_105; have xa1_4 := Ea1.cell it1_105; have xa1_5 := Ea1.cell it2_105; have xa1_6 := Ea1.cell id0_105; have xa1_7 := Ea1.cell id1_105; have xa1_8 := Ea1.cell id2_105; have ha1zs := Ea1.size; have sf0_1 : IntS wa1 (.slice (some ⟨w105.heap.size + 1, 0, none⟩) 1 1) [50] := ((OwnI.of (B := 0) (l := [50]) (Nat.zero_le _) (Blk.newB (w := (w105.alloc (.cells #[.slice none 0 0, .slice none 0 0, .slice none 0 0] 31))) (c := #[.int .i64 50]) (b := w105.heap.size + 1) (by simp)) (by simp [maxLen])).ints.ext ((Ext.refl _).drew)).ext ha1; have Y1 : Blk wa1 (w105.heap.size) 31 [.slice none 0 0, .slice none 0 0, .slice none 0 0] := (((Blk.newB (w := w105) (c := #[.slice none 0 0, .slice none 0 0, .slice none 0 0]) (b := w105.heap.size) (by simp)).ext ((Ext.refl _).alloc _)).ext ((Ext.refl _).drew)).ext ha1; have ltY1 := Y1.lt; rw [cutL_head HXN.out] at oc; obtain ⟨ac1, ac2, rfl, _, _⟩ := oc.ints.val; have hn1_0_0 : w1.heap.size ≠ wa1.heap.size := (by omega); have hn1_1_0 : w1.heap.size ≠ wa1.heap.size + 1 := (by omega); have hn1_0_1 : w3.heap.size ≠ wa1.heap.size := (by omega); have hn1_1_1 : w3.heap.size ≠ wa1.heap.size + 1 := (by omega); have hn1_0_2 : bu105 ≠ wa1.heap.size := (by omega); have hn1_1_2 : bu105 ≠ wa1.heap.size + 1 := (by omega)
        (try go_simp)
        refine hKc.out _ _ ?_ (fun hHeld => ?_) <;> clear hKc Kc
        · (with_reducible exact ⟨xa1_0, xa1_1, xa1_2, xa1_3, xa1_4, xa1_5, xa1_6, xa1_7, xa1_8⟩)
        refine wpAnyH_ready (rs := [8]) (by kernel_rfl) (by simp) ?_
        refine AllReadyH.cons rfl (fun Kc hKc => ?_) AllReadyH.nil
        go_simp; go_at_call 21
        have Eq1 : Ext w105 wa1 := Ea1; have su0 : IntS wa1 (.slice (some ⟨w105.heap.size + 1, 0, none⟩) 1 1) [50] := (sf0_1); (with_reducible refine (lawsJoin_any _ _ L [50] wa1 (oc.ints.ext (Ext.refl wa1)) su0 (by have := HL3.out; omega) (by simp)).mono ?_); rintro ea2 wa2 ⟨vj, rfl, oj, ha2⟩; have Ea2 : Ext w105 wa2 := Eq1.trans ha2; have xa2_0 := Ea2.cell ir0_105; have xa2_1 := Ea2.cell ir1_105; have xa2_2 := Ea2.cell ir2_105; have xa2_3 := Ea2.cell it0_105; have xa2_4 := Ea2.cell it1_105; have xa2_5 := Ea2.cell it2_105; have xa2_6 := Ea2.cell id0_105; have xa2_7 := Ea2.cell id1_105; have xa2_8 := Ea2.cell id2_105; have ha2zs := Ea2.size; have Y2 : Blk wa2 (w105.heap.size) 31 [.slice none 0 0, .slice none 0 0, .slice none 0 0] := Y1.ext ha2; have ltY2 := Y2.lt; obtain ⟨J, hJ⟩ : ∃ J, L ++ [50] = J := ⟨_, rfl⟩; rw [hJ] at oj; obtain ⟨aj1, aj2, rfl, _, _⟩ := oj.ints.val; have HJ := Lib.hid hJ; clear hJ; have hn2_0_0 : w1.heap.size ≠ wa2.heap.size := (by omega); have hn2_1_0 : w1.heap.size ≠ wa2.heap.size + 1 := (by omega); have hn2_0_1 : w3.heap.size ≠ wa2.heap.size := (by omega); have hn2_1_1 : w3.heap.size ≠ wa2.heap.size + 1 := (by omega); have hn2_0_2 : bu105 ≠ wa2.heap.size := (by omega); have hn2_1_2 : bu105 ≠ wa2.heap.size + 1 := (by omega)
        (try go_simp)
        refine hKc.out _ _ ?_ (fun hHeld => ?_) <;> clear hKc Kc
        · (with_reducible exact ⟨xa2_0, xa2_1, xa2_2, xa2_3, xa2_4, xa2_5, xa2_6, xa2_7, xa2_8⟩)
        refine wpAnyH_ready (rs := [9]) (by kernel_rfl) (by simp) ?_
        refine AllReadyH.cons rfl (fun Kc hKc => ?_) AllReadyH.nil
        go_simp; go_at_call 14
        have Eq2 : Ext w105 wa2 := Ea2; (with_reducible refine (contractPair_any HR.out Tt.out Td.out J _ _ _ wa2 ((ot.tens.ext (h104.trans h105)).ext Eq2) (od.tens.ext Eq2) (oj.ints.ext (Ext.refl wa2))).mono ?_); rintro ea3 wa3 ⟨v3, rfl, oa, ha3⟩; have Ea3 : Ext w105 wa3 := Eq2.trans ha3; have xa3_0 := Ea3.cell ir0_105; have xa3_1 := Ea3.cell ir1_105; have xa3_2 := Ea3.cell ir2_105; have xa3_3 := Ea3.cell it0_105; have xa3_4 := Ea3.cell it1_105; have xa3_5 := Ea3.cell it2_105; have xa3_6 := Ea3.cell id0_105; have xa3_7 := Ea3.cell id1_105; have xa3_8 := Ea3.cell id2_105; have ha3zs := Ea3.size; have Y3 : Blk wa3 (w105.heap.size) 31 [.slice none 0 0, .slice none 0 0, .slice none 0 0] := Y2.ext ha3; have ltY3 := Y3.lt; rw [← HJ.out, HRN.out.1] at oa; obtain ⟨ap1, an1, ac1, ap2, an2, ac2, ap3, an3, ac3, rfl⟩ := oa.shape; have o4m := oa.mono (B' := w105.heap.size) Eq2.size; have o5m := oa.mono (B' := w105.heap.size + 1) (by first | (simp; done) | (simp; omega) | omega); have fb_0 := Y3.free 0; have yb_0 := Y3.cell (j := 0) rfl; have fb_1 := Y3.free 1; have yb_1 := Y3.cell (j := 1) rfl; have fb_2 := Y3.free 2; have yb_2 := Y3.cell (j := 2) rfl; have ylb := Y3.lt; have hn3_0_0 : w1.heap.size ≠ wa3.heap.size := (by omega); have hn3_1_0 : w1.heap.size ≠ wa3.heap.size + 1 := (by omega); have hn3_0_1 : w3.heap.size ≠ wa3.heap.size := (by omega); have hn3_1_1 : w3.heap.size ≠ wa3.heap.size + 1 := (by omega); have hn3_0_2 : bu105 ≠ wa3.heap.size := (by omega); have hn3_1_2 : bu105 ≠ wa3.heap.size + 1 := (by omega)
        (try go_simp)
        refine hKc.out _ _ ?_ (fun hHeld => ?_) <;> clear hKc Kc
        · (with_reducible exact ⟨xa3_0, xa3_1, xa3_2, xa3_3, xa3_4, xa3_5, xa3_6, xa3_7, xa3_8⟩)
        refine wpAnyH_take (i := 10) (v := ?_) rfl (by kernel_rfl) (by kernel_rfl) (by kernel_rfl) (fun _ _ _ h => h) (Or.inl ⟨by rfl, ?_⟩) (by assumption) ?_
        rotate_left
        · intro w hSw; (try dsimp only at hSw); go_simp; (try with_reducible rfl)
        (try go_simp)
        refine wpAnyH_take (i := 11) (v := ?_) rfl (by kernel_rfl) (by kernel_rfl) (by kernel_rfl) (fun _ _ _ h => h) (Or.inl ⟨by rfl, ?_⟩) (by assumption) ?_
        rotate_left
        · intro w hSw; (try dsimp only at hSw); go_simp; (try with_reducible rfl)
        (try go_simp)
        refine wpAnyH_take (i := 12) (v := ?_) rfl (by kernel_rfl) (by kernel_rfl) (by kernel_rfl) (fun _ _ _ h => h) (Or.inl ⟨by rfl, ?_⟩) (by assumption) ?_
        rotate_left
        · intro w hSw; (try dsimp only at hSw); go_simp; (try with_reducible rfl)
        (try go_simp)
        refine wpAnyH_ready (rs := [14]) (by kernel_rfl) (by simp) ?_
        refine AllReadyH.cons rfl (fun Kc hKc => ?_) AllReadyH.nil
        go_simp
        refine hKc.out _ _ ?_ (fun hHeld => ?_) <;> clear hKc Kc
        · (with_reducible exact ⟨grown_cell (b := w105.heap.size) (grown_setCell (grown_setCell (grown_setCell (grown_refl _ _) _ _) _ _) _ _) hn0_0_0 xa3_0, grown_cell (b := w105.heap.size) (grown_setCell (grown_setCell (grown_setCell (grown_refl _ _) _ _) _ _) _ _) hn0_0_0 xa3_1, grown_cell (b := w105.heap.size) (grown_setCell (grown_setCell (grown_setCell (grown_refl _ _) _ _) _ _) _ _) hn0_0_0 xa3_2, grown_cell (b := w105.heap.size) (grown_setCell (grown_setCell (grown_setCell (grown_refl _ _) _ _) _ _) _ _) hn0_0_1 xa3_3, grown_cell (b := w105.heap.size) (grown_setCell (grown_setCell (grown_setCell (grown_refl _ _) _ _) _ _) _ _) hn0_0_1 xa3_4, grown_cell (b := w105.heap.size) (grown_setCell (grown_setCell (grown_setCell (grown_refl _ _) _ _) _ _) _ _) hn0_0_1 xa3_5, grown_cell (b := w105.heap.size) (grown_setCell (grown_setCell (grown_setCell (grown_refl _ _) _ _) _ _) _ _) hn0_0_2 xa3_6, grown_cell (b := w105.heap.size) (grown_setCell (grown_setCell (grown_setCell (grown_refl _ _) _ _) _ _) _ _) hn0_0_2 xa3_7, grown_cell (b := w105.heap.size) (grown_setCell (grown_setCell (grown_setCell (grown_refl _ _) _ _) _ _) _ _) hn0_0_2 xa3_8⟩)
        refine wpAnyH_ready (rs := [15]) (by kernel_rfl) (by simp) ?_
        refine AllReadyH.cons rfl (fun Kc hKc => ?_) AllReadyH.nil
        go_simp
        refine hKc.out _ _ ?_ (fun hHeld => ?_) <;> clear hKc Kc
        · (with_reducible exact ⟨grown_cell (b := w105.heap.size) (grown_setCell (grown_setCell (grown_setCell (grown_refl _ _) _ _) _ _) _ _) hn0_0_0 xa3_0, grown_cell (b := w105.heap.size) (grown_setCell (grown_setCell (grown_setCell (grown_refl _ _) _ _) _ _) _ _) hn0_0_0 xa3_1, grown_cell (b := w105.heap.size) (grown_setCell (grown_setCell (grown_setCell (grown_refl _ _) _ _) _ _) _ _) hn0_0_0 xa3_2, grown_cell (b := w105.heap.size) (grown_setCell (grown_setCell (grown_setCell (grown_refl _ _) _ _) _ _) _ _) hn0_0_1 xa3_3, grown_cell (b := w105.heap.size) (grown_setCell (grown_setCell (grown_setCell (grown_refl _ _) _ _) _ _) _ _) hn0_0_1 xa3_4, grown_cell (b := w105.heap.size) (grown_setCell (grown_setCell (grown_setCell (grown_refl _ _) _ _) _ _) _ _) hn0_0_1 xa3_5, grown_cell (b := w105.heap.size) (grown_setCell (grown_setCell (grown_setCell (grown_refl _ _) _ _) _ _) _ _) hn0_0_2 xa3_6, grown_cell (b := w105.heap.size) (grown_setCell (grown_setCell (grown_setCell (grown_refl _ _) _ _) _ _) _ _) hn0_0_2 xa3_7, grown_cell (b := w105.heap.size) (grown_setCell (grown_setCell (grown_setCell (grown_refl _ _) _ _) _ _) _ _) hn0_0_2 xa3_8⟩)
        refine wpAnyH_done (by kernel_rfl) ?_ _
        go_wp2_with fail
        go_meet
        exact ⟨w105.heap.size, ap1, an1, ac1, ap2, an2, ac2, ap3, an3, ac3, rfl, rfl, (((Y3.set 0 (.slice ap1 an1 ac1)).set 1 (.slice ap2 an2 ac2)).set 2 (.slice ap3 an3 ac3)), (((Ea3.setAt (Nat.le_refl _) _ _).setAt (Nat.le_refl _) _ _).setAt (Nat.le_refl _) _ _), (((o5m.setBelow (p := ⟨w105.heap.size, 0, none⟩) (Nat.lt_succ_self _) _).setBelow (p := ⟨w105.heap.size, 1, none⟩) (Nat.lt_succ_self _) _).setBelow (p := ⟨w105.heap.size, 2, none⟩) (Nat.lt_succ_self _) _).mono (by omega)⟩
    obtain ⟨w106, rfl⟩ : ∃ x, x = wc := ⟨wc, rfl⟩
    obtain ⟨bu106, ap1, an1, ac1, ap2, an2, ac2, ap3, an3, ac3, rfl, rfl, Ba106, h106, oa⟩ := hcut
    clear ir0_105 ir1_105 ir2_105 lr_105 it0_105 it1_105 it2_105 lt_105 id0_105 id1_105 id2_105 ld_105
    have Br106 := (Br105.ext h106)
    clear Br105
    have ir0_106 := Br106.cell (j := 0) rfl
    have ir1_106 := Br106.cell (j := 1) rfl
    have ir2_106 := Br106.cell (j := 2) rfl
    have lr_106 := Br106.lt
    have Bt106 := (Bt105.ext h106)
    clear Bt105
    have it0_106 := Bt106.cell (j := 0) rfl
    have it1_106 := Bt106.cell (j := 1) rfl
    have it2_106 := Bt106.cell (j := 2) rfl
    have lt_106 := Bt106.lt
    have Bd106 := (Bd105.ext h106)
    clear Bd105
    have id0_106 := Bd106.cell (j := 0) rfl
    have id1_106 := Bd106.cell (j := 1) rfl
    have id2_106 := Bd106.cell (j := 2) rfl
    have ld_106 := Bd106.lt
    have Ba106 := Ba106
    have ia0_106 := Ba106.cell (j := 0) rfl
    have ia1_106 := Ba106.cell (j := 1) rfl
    have ia2_106 := Ba106.cell (j := 2) rfl
    have la_106 := Ba106.lt
    go_wp2_with fail
    generalize hG107 : ((w106.alloc (.cells #[.int .i64 x] 3)).alloc (.cells #[.int .i64 50] 3)) = w107
    have h107 : Ext w106 w107 := by rw [← hG107]; exact (by repeat' (first | (with_reducible exact Ext.refl _) | (with_reducible assumption) | (with_reducible apply Ext.alloc) | (with_reducible apply Ext.drew) | (with_reducible apply Ext.drewN) | (refine Ext.setAt ?_ (by omega) _ _) | (refine Ext.trans ?_ (by assumption))))
    have Bp107 : Blk w107 (w106.heap.size) 3 [.int .i64 x] := by rw [← hG107]; exact ((Blk.newB (c := #[_]) (by simp)).alloc _)
    have Bq107 : Blk w107 (w106.heap.size + 1) 3 [.int .i64 50] := by rw [← hG107]; exact (Blk.newB (c := #[_]) (by simp))
    clear hG107
    clear ir0_106 ir1_106 ir2_106 lr_106 it0_106 it1_106 it2_106 lt_106 id0_106 id1_106 id2_106 ld_106 ia0_106 ia1_106 ia2_106 la_106
    have Br107 := (Br106.ext h107)
    clear Br106
    have ir0_107 := Br107.cell (j := 0) rfl
    have ir1_107 := Br107.cell (j := 1) rfl
    have ir2_107 := Br107.cell (j := 2) rfl
    have lr_107 := Br107.lt
    have Bt107 := (Bt106.ext h107)
    clear Bt106
    have it0_107 := Bt107.cell (j := 0) rfl
    have it1_107 := Bt107.cell (j := 1) rfl
    have it2_107 := Bt107.cell (j := 2) rfl
    have lt_107 := Bt107.lt
    have Ba107 := (Ba106.ext h107)
    clear Ba106
    have ia0_107 := Ba107.cell (j := 0) rfl
    have ia1_107 := Ba107.cell (j := 1) rfl
    have ia2_107 := Ba107.cell (j := 2) rfl
    have la_107 := Ba107.lt
    have Bp107 := Bp107
    have ip0_107 := Bp107.cell (j := 0) rfl
    have lp_107 := Bp107.lt
    have Bq107 := Bq107
    have iq0_107 := Bq107.cell (j := 0) rfl
    have lq_107 := Bq107.lt
    have hp : IntS w107 (.slice (some ⟨w106.heap.size, 0, none⟩) 1 1) [x] := (OwnI.of (B := 0) (l := [x]) (Nat.zero_le _) (show Blk _ _ _ (ints [x]) from Bp107) (by simp [maxLen])).ints
    have hq : IntS w107 (.slice (some ⟨w106.heap.size + 1, 0, none⟩) 1 1) [50] := (OwnI.of (B := 0) (l := [50]) (Nat.zero_le _) (show Blk _ _ _ (ints [50]) from Bq107) (by simp [maxLen])).ints
    clear ip0_107 lp_107 iq0_107 lq_107 Bp107 Bq107
    have hrm : (x :: L).map (renL [x] [50]) = 50 :: L := by
      rw [List.map_cons, show renL [x] [50] x = 50 by simp [renL]]
      congr 1
      conv => rhs; rw [← List.map_id L]
      exact List.map_congr_left fun l hl => by have : x ≠ l := (by rintro rfl; exact HXN.out hl); simp [renL, this]
    have hdm : (x :: L).map (dmX x) = (50 :: L).map (dmX x) := by rw [List.map_cons, List.map_cons, HDX.out 50 (by simp)]
    have HRM := Lib.hid hrm; have HDM := Lib.hid hdm; clear hrm hdm
    refine (relabelTensor_any k p n HR.out (Tt.out.ok HR.out) (by rw [HRM.out, HDM.out]; exact HRN.out.2.1.ax) (by rfl) _ _ _ _ (ot.tens.ext (h104.trans (h105.trans (h106.trans h107)))) hp hq).mono ?_; rintro e108 w108 ⟨vb, rfl, ob, h108⟩
    rw [HRM.out, HDM.out] at ob
    clear hp hq
    obtain ⟨bp1, bn1, bc1, bp2, bn2, bc2, bp3, bn3, bc3, rfl⟩ := ob.shape
    clear ir0_107 ir1_107 ir2_107 lr_107 it0_107 it1_107 it2_107 lt_107 ia0_107 ia1_107 ia2_107 la_107
    have Br108 := (Br107.ext h108)
    clear Br107
    have ir0_108 := Br108.cell (j := 0) rfl
    have ir1_108 := Br108.cell (j := 1) rfl
    have ir2_108 := Br108.cell (j := 2) rfl
    have lr_108 := Br108.lt
    have Bt108 := (Bt107.ext h108)
    clear Bt107
    have it0_108 := Bt108.cell (j := 0) rfl
    have it1_108 := Bt108.cell (j := 1) rfl
    have it2_108 := Bt108.cell (j := 2) rfl
    have lt_108 := Bt108.lt
    have Ba108 := (Ba107.ext h108)
    clear Ba107
    have ia0_108 := Ba108.cell (j := 0) rfl
    have ia1_108 := Ba108.cell (j := 1) rfl
    have ia2_108 := Ba108.cell (j := 2) rfl
    have la_108 := Ba108.lt
    go_wp2_with fail
    generalize hG109 : w108.alloc (.cells #[.slice bp1 bn1 bc1, .slice bp2 bn2 bc2, .slice bp3 bn3 bc3] 31) = w109
    have h109 : Ext w108 w109 := by rw [← hG109]; exact (Ext.refl _).alloc _
    have Bb109 : Blk w109 w108.heap.size 31 [.slice bp1 bn1 bc1, .slice bp2 bn2 bc2, .slice bp3 bn3 bc3] := by rw [← hG109]; exact Blk.new w108 #[.slice bp1 bn1 bc1, .slice bp2 bn2 bc2, .slice bp3 bn3 bc3] 31
    clear hG109
    clear ir0_108 ir1_108 ir2_108 lr_108 it0_108 it1_108 it2_108 lt_108 ia0_108 ia1_108 ia2_108 la_108
    have Br109 := (Br108.ext h109)
    clear Br108
    have ir0_109 := Br109.cell (j := 0) rfl
    have ir1_109 := Br109.cell (j := 1) rfl
    have ir2_109 := Br109.cell (j := 2) rfl
    have lr_109 := Br109.lt
    have Bt109 := (Bt108.ext h109)
    clear Bt108
    have it0_109 := Bt109.cell (j := 0) rfl
    have it1_109 := Bt109.cell (j := 1) rfl
    have it2_109 := Bt109.cell (j := 2) rfl
    have lt_109 := Bt109.lt
    have Ba109 := (Ba108.ext h109)
    clear Ba108
    have ia0_109 := Ba109.cell (j := 0) rfl
    have ia1_109 := Ba109.cell (j := 1) rfl
    have ia2_109 := Ba109.cell (j := 2) rfl
    have la_109 := Ba109.lt
    have Bb109 := Bb109
    have ib0_109 := Bb109.cell (j := 0) rfl
    have ib1_109 := Bb109.cell (j := 1) rfl
    have ib2_109 := Bb109.cell (j := 2) rfl
    have lb_109 := Bb109.lt
    have id_109 := ((h104.trans (h105.trans (h106.trans (h107.trans (h108.trans h109)))))).cell hc1'
    have hn0_0_0 : w1.heap.size ≠ w109.heap.size := (by omega)
    have hn0_1_0 : w1.heap.size ≠ w109.heap.size + 1 := (by omega)
    have hn0_0_1 : w3.heap.size ≠ w109.heap.size := (by omega)
    have hn0_1_1 : w3.heap.size ≠ w109.heap.size + 1 := (by omega)
    have hn0_0_2 : b1 ≠ w109.heap.size := (by omega)
    have hn0_1_2 : b1 ≠ w109.heap.size + 1 := (by omega)
    go_upto_region 12 with fail
    go_cut [14, 15] from 25 (fun q ok wx => ∃ bu ep1 en1 ec1 ep2 en2 ec2 ep3 en3 ec3, q = .pointer (some ⟨bu, 0, none⟩) ∧ ok = .bool true ∧ Blk wx bu 31 [.slice ep1 en1 ec1, .slice ep2 en2 ec2, .slice ep3 en3 ec3] ∧ Ext w109 wx ∧ OwnT wx w109.heap.size (.agg #[.slice ep1 en1 ec1, .slice ep2 en2 ec2, .slice ep3 en3 ec3]) [x, 60, 70] ([x, 60, 70].map (dmX x)) (flat (deltaXs HR.out (dmX x) [x, 60, 70] x)))
    case first =>
      as_aux_lemma =>
        refine wp_region_held_drew (S := fun w' => w'.cell? ⟨w1.heap.size, 0, none⟩ = some (.int .i64 k) ∧ w'.cell? ⟨w1.heap.size, 1, none⟩ = some (.int .i64 p) ∧ w'.cell? ⟨w1.heap.size, 2, none⟩ = some (.int .i64 n) ∧ w'.cell? ⟨w3.heap.size, 0, none⟩ = some (.slice (some ⟨b0, f0, none⟩) (L.length + 1) tc1) ∧ w'.cell? ⟨w3.heap.size, 1, none⟩ = some (.slice (some ⟨b1, f1, none⟩) (L.length + 1) tc2) ∧ w'.cell? ⟨w3.heap.size, 2, none⟩ = some (.slice tp3 tn3 tc3) ∧ w'.cell? ⟨b1, f1, none⟩ = some (.int .i64 d)) (by kernel_rfl) ?_ (fun hHeld => ?_)
        · (with_reducible exact ⟨((Ext.refl w109).drew).cell ir0_109, ((Ext.refl w109).drew).cell ir1_109, ((Ext.refl w109).drew).cell ir2_109, ((Ext.refl w109).drew).cell it0_109, ((Ext.refl w109).drew).cell it1_109, ((Ext.refl w109).drew).cell it2_109, ((Ext.refl w109).drew).cell id_109⟩)
        refine wpAnyH_take (i := 0) (v := ?_) rfl (by kernel_rfl) (by kernel_rfl) (by kernel_rfl) (fun _ _ _ h => h) (Or.inl ⟨by rfl, ?_⟩) (by assumption) ?_
        rotate_left
        · intro w hSw; (try dsimp only at hSw); go_simp; (try with_reducible rfl)
        (try go_simp)
        refine wpAnyH_take (i := 1) (v := ?_) rfl (by kernel_rfl) (by kernel_rfl) (by kernel_rfl) (fun _ _ _ h => h) (Or.inl ⟨by rfl, ?_⟩) (by assumption) ?_
        rotate_left
        · intro w hSw; (try dsimp only at hSw); go_simp; (try with_reducible rfl)
        (try go_simp)
        refine wpAnyH_take (i := 3) (v := ?_) rfl (by kernel_rfl) (by kernel_rfl) (by kernel_rfl) (fun _ _ _ h => h) (Or.inl ⟨by rfl, ?_⟩) (by assumption) ?_
        rotate_left
        · intro w hSw; (try dsimp only at hSw); go_simp; (try with_reducible rfl)
        (try go_simp)
        refine wpAnyH_take (i := 4) (v := ?_) rfl (by kernel_rfl) (by kernel_rfl) (by kernel_rfl) (fun _ _ _ h => h) (Or.inl ⟨by rfl, ?_⟩) (by assumption) ?_
        rotate_left
        · intro w hSw; (try dsimp only at hSw); go_simp; (try with_reducible rfl)
        (try go_simp)
        refine wpAnyH_take (i := 5) (v := ?_) rfl (by kernel_rfl) (by kernel_rfl) (by kernel_rfl) (fun _ _ _ h => h) (Or.inl ⟨by rfl, ?_⟩) (by assumption) ?_
        rotate_left
        · intro w hSw; (try dsimp only at hSw); go_simp; (try with_reducible rfl)
        (try go_simp)
        refine wpAnyH_take (i := 6) (v := ?_) rfl (by kernel_rfl) (by kernel_rfl) (by kernel_rfl) (fun _ _ _ h => h) (Or.inl ⟨by rfl, ?_⟩) (by assumption) ?_
        rotate_left
        · intro w hSw; (try dsimp only at hSw); go_simp; (try with_reducible rfl)
        (try go_simp)
        refine wpAnyH_ready (rs := [2, 11]) (by kernel_rfl) (by simp) ?_
        refine AllReadyH.cons rfl (fun Kc hKc => ?_) ?_
        · skip
          go_simp
          refine hKc.out _ _ ?_ (fun hHeld => ?_) <;> clear hKc Kc
          · (with_reducible exact ⟨(((Ext.refl w109).alloc _).drew).cell ir0_109, (((Ext.refl w109).alloc _).drew).cell ir1_109, (((Ext.refl w109).alloc _).drew).cell ir2_109, (((Ext.refl w109).alloc _).drew).cell it0_109, (((Ext.refl w109).alloc _).drew).cell it1_109, (((Ext.refl w109).alloc _).drew).cell it2_109, (((Ext.refl w109).alloc _).drew).cell id_109⟩)
          refine wpAnyH_ready (rs := [7, 11]) (by kernel_rfl) (by simp) ?_
          refine AllReadyH.cons rfl (fun Kc hKc => ?_) ?_
          · skip
            go_simp; go_at_call 34
            have Eq0 : Ext w109 (w109.alloc (.cells #[.int .i64 x, .int .i64 60, .int .i64 70] 3)).drew := (((Ext.refl w109).alloc _).drew); have su0 : IntS (w109.alloc (.cells #[.int .i64 x, .int .i64 60, .int .i64 70] 3)).drew (.slice (some ⟨w109.heap.size, 0, none⟩) 3 3) [x, 60, 70] := ((OwnI.of (B := 0) (l := [x, 60, 70]) (Nat.zero_le _) (Blk.newB (w := w109) (c := #[.int .i64 x, .int .i64 60, .int .i64 70]) (b := w109.heap.size) (by simp)) (by simp [maxLen])).ints.ext ((Ext.refl _).drew)); (with_reducible refine (deltaT_any HR.out UU.out S3.out D3.out hd3.1 (by omega) (List.mem_cons_self .. : x ∈ [x, 60, 70]) _ (w109.alloc (.cells #[.int .i64 x, .int .i64 60, .int .i64 70] 3)).drew su0).mono ?_); rintro ee1 we1 ⟨v1, rfl, oe, he1⟩; have Ee1 : Ext w109 we1 := Eq0.trans he1; have xe1_0 := Ee1.cell ir0_109; have xe1_1 := Ee1.cell ir1_109; have xe1_2 := Ee1.cell ir2_109; have xe1_3 := Ee1.cell it0_109; have xe1_4 := Ee1.cell it1_109; have xe1_5 := Ee1.cell it2_109; have xe1_6 := Ee1.cell id_109; have he1zs := Ee1.size; obtain ⟨ep1, en1, ec1, ep2, en2, ec2, ep3, en3, ec3, rfl⟩ := oe.shape; have o4m := oe.mono (B' := w109.heap.size) Eq0.size; have hn1_0_0 : w1.heap.size ≠ we1.heap.size := (by omega); have hn1_1_0 : w1.heap.size ≠ we1.heap.size + 1 := (by omega); have hn1_0_1 : w3.heap.size ≠ we1.heap.size := (by omega); have hn1_1_1 : w3.heap.size ≠ we1.heap.size + 1 := (by omega); have hn1_0_2 : b1 ≠ we1.heap.size := (by omega); have hn1_1_2 : b1 ≠ we1.heap.size + 1 := (by omega)
            (try go_simp)
            refine hKc.out _ _ ?_ (fun hHeld => ?_) <;> clear hKc Kc
            · (with_reducible exact ⟨xe1_0, xe1_1, xe1_2, xe1_3, xe1_4, xe1_5, xe1_6⟩)
            refine wpAnyH_take (i := 8) (v := ?_) rfl (by kernel_rfl) (by kernel_rfl) (by kernel_rfl) (fun _ _ _ h => h) (Or.inl ⟨by rfl, ?_⟩) (by assumption) ?_
            rotate_left
            · intro w hSw; (try dsimp only at hSw); go_simp; (try with_reducible rfl)
            (try go_simp)
            refine wpAnyH_take (i := 9) (v := ?_) rfl (by kernel_rfl) (by kernel_rfl) (by kernel_rfl) (fun _ _ _ h => h) (Or.inl ⟨by rfl, ?_⟩) (by assumption) ?_
            rotate_left
            · intro w hSw; (try dsimp only at hSw); go_simp; (try with_reducible rfl)
            (try go_simp)
            refine wpAnyH_take (i := 10) (v := ?_) rfl (by kernel_rfl) (by kernel_rfl) (by kernel_rfl) (fun _ _ _ h => h) (Or.inl ⟨by rfl, ?_⟩) (by assumption) ?_
            rotate_left
            · intro w hSw; (try dsimp only at hSw); go_simp; (try with_reducible rfl)
            (try go_simp)
            refine wpAnyH_ready (rs := [11]) (by kernel_rfl) (by simp) ?_
            refine AllReadyH.cons rfl (fun Kc hKc => ?_) AllReadyH.nil
            go_simp
            refine hKc.out _ _ ?_ (fun hHeld => ?_) <;> clear hKc Kc
            · (with_reducible exact ⟨((Ext.refl we1).alloc _).cell xe1_0, ((Ext.refl we1).alloc _).cell xe1_1, ((Ext.refl we1).alloc _).cell xe1_2, ((Ext.refl we1).alloc _).cell xe1_3, ((Ext.refl we1).alloc _).cell xe1_4, ((Ext.refl we1).alloc _).cell xe1_5, ((Ext.refl we1).alloc _).cell xe1_6⟩)
            refine wpAnyH_ready (rs := [12]) (by kernel_rfl) (by simp) ?_
            refine AllReadyH.cons rfl (fun Kc hKc => ?_) AllReadyH.nil
            go_simp
            refine hKc.out _ _ ?_ (fun hHeld => ?_) <;> clear hKc Kc
            · (with_reducible exact ⟨(Ee1.alloc _).cell ir0_109, (Ee1.alloc _).cell ir1_109, (Ee1.alloc _).cell ir2_109, (Ee1.alloc _).cell it0_109, (Ee1.alloc _).cell it1_109, (Ee1.alloc _).cell it2_109, (Ee1.alloc _).cell id_109⟩)
            refine wpAnyH_ready (rs := [13]) (by kernel_rfl) (by simp) ?_
            refine AllReadyH.cons rfl (fun Kc hKc => ?_) AllReadyH.nil
            go_simp
            refine hKc.out _ _ ?_ (fun hHeld => ?_) <;> clear hKc Kc
            · (with_reducible exact ⟨(Ee1.alloc _).cell ir0_109, (Ee1.alloc _).cell ir1_109, (Ee1.alloc _).cell ir2_109, (Ee1.alloc _).cell it0_109, (Ee1.alloc _).cell it1_109, (Ee1.alloc _).cell it2_109, (Ee1.alloc _).cell id_109⟩)
            refine wpAnyH_done (by kernel_rfl) ?_ _
            go_wp2_with fail
            go_meet
            exact ⟨we1.heap.size, ep1, en1, ec1, ep2, en2, ec2, ep3, en3, ec3, rfl, rfl, Blk.new we1 #[.slice ep1 en1 ec1, .slice ep2 en2 ec2, .slice ep3 en3 ec3] _, Ee1.alloc _, o4m.ext ((Ext.refl _).alloc _)⟩
          refine AllReadyH.cons rfl (fun Kc hKc => ?_) AllReadyH.nil
          go_simp
          refine hKc.out _ _ ?_ (fun hHeld => ?_) <;> clear hKc Kc
          · (with_reducible exact ⟨((((Ext.refl w109).alloc _).alloc _).drew).cell ir0_109, ((((Ext.refl w109).alloc _).alloc _).drew).cell ir1_109, ((((Ext.refl w109).alloc _).alloc _).drew).cell ir2_109, ((((Ext.refl w109).alloc _).alloc _).drew).cell it0_109, ((((Ext.refl w109).alloc _).alloc _).drew).cell it1_109, ((((Ext.refl w109).alloc _).alloc _).drew).cell it2_109, ((((Ext.refl w109).alloc _).alloc _).drew).cell id_109⟩)
          refine wpAnyH_ready (rs := [7]) (by kernel_rfl) (by simp) ?_
          refine AllReadyH.cons rfl (fun Kc hKc => ?_) AllReadyH.nil
          go_simp; go_at_call 34
          have Eq0 : Ext w109 ((w109.alloc (.cells #[.int .i64 x, .int .i64 60, .int .i64 70] 3)).alloc (.cells #[.slice none 0 0, .slice none 0 0, .slice none 0 0] 31)).drew := ((((Ext.refl w109).alloc _).alloc _).drew); have su0 : IntS ((w109.alloc (.cells #[.int .i64 x, .int .i64 60, .int .i64 70] 3)).alloc (.cells #[.slice none 0 0, .slice none 0 0, .slice none 0 0] 31)).drew (.slice (some ⟨w109.heap.size, 0, none⟩) 3 3) [x, 60, 70] := (((OwnI.of (B := 0) (l := [x, 60, 70]) (Nat.zero_le _) (Blk.newB (w := w109) (c := #[.int .i64 x, .int .i64 60, .int .i64 70]) (b := w109.heap.size) (by simp)) (by simp [maxLen])).ints.ext ((Ext.refl _).alloc _)).ext ((Ext.refl _).drew)); (with_reducible refine (deltaT_any HR.out UU.out S3.out D3.out hd3.1 (by omega) (List.mem_cons_self .. : x ∈ [x, 60, 70]) _ ((w109.alloc (.cells #[.int .i64 x, .int .i64 60, .int .i64 70] 3)).alloc (.cells #[.slice none 0 0, .slice none 0 0, .slice none 0 0] 31)).drew su0).mono ?_); rintro ee1 we1 ⟨v1, rfl, oe, he1⟩; have Ee1 : Ext w109 we1 := Eq0.trans he1; have xe1_0 := Ee1.cell ir0_109; have xe1_1 := Ee1.cell ir1_109; have xe1_2 := Ee1.cell ir2_109; have xe1_3 := Ee1.cell it0_109; have xe1_4 := Ee1.cell it1_109; have xe1_5 := Ee1.cell it2_109; have xe1_6 := Ee1.cell id_109; have he1zs := Ee1.size; have Y1 : Blk we1 (w109.heap.size + 1) 31 [.slice none 0 0, .slice none 0 0, .slice none 0 0] := ((Blk.newB (w := (w109.alloc (.cells #[.int .i64 x, .int .i64 60, .int .i64 70] 3))) (c := #[.slice none 0 0, .slice none 0 0, .slice none 0 0]) (b := w109.heap.size + 1) (by simp)).ext ((Ext.refl _).drew)).ext he1; have ltY1 := Y1.lt; obtain ⟨ep1, en1, ec1, ep2, en2, ec2, ep3, en3, ec3, rfl⟩ := oe.shape; have o4m := oe.mono (B' := w109.heap.size) Eq0.size; have o5m := oe.mono (B' := w109.heap.size + 1 + 1) (by first | (simp; done) | (simp; omega) | omega); have fb_0 := Y1.free 0; have yb_0 := Y1.cell (j := 0) rfl; have fb_1 := Y1.free 1; have yb_1 := Y1.cell (j := 1) rfl; have fb_2 := Y1.free 2; have yb_2 := Y1.cell (j := 2) rfl; have ylb := Y1.lt; have hn1_0_0 : w1.heap.size ≠ we1.heap.size := (by omega); have hn1_1_0 : w1.heap.size ≠ we1.heap.size + 1 := (by omega); have hn1_0_1 : w3.heap.size ≠ we1.heap.size := (by omega); have hn1_1_1 : w3.heap.size ≠ we1.heap.size + 1 := (by omega); have hn1_0_2 : b1 ≠ we1.heap.size := (by omega); have hn1_1_2 : b1 ≠ we1.heap.size + 1 := (by omega)
          (try go_simp)
          refine hKc.out _ _ ?_ (fun hHeld => ?_) <;> clear hKc Kc
          · (with_reducible exact ⟨xe1_0, xe1_1, xe1_2, xe1_3, xe1_4, xe1_5, xe1_6⟩)
          refine wpAnyH_take (i := 8) (v := ?_) rfl (by kernel_rfl) (by kernel_rfl) (by kernel_rfl) (fun _ _ _ h => h) (Or.inl ⟨by rfl, ?_⟩) (by assumption) ?_
          rotate_left
          · intro w hSw; (try dsimp only at hSw); go_simp; (try with_reducible rfl)
          (try go_simp)
          refine wpAnyH_take (i := 9) (v := ?_) rfl (by kernel_rfl) (by kernel_rfl) (by kernel_rfl) (fun _ _ _ h => h) (Or.inl ⟨by rfl, ?_⟩) (by assumption) ?_
          rotate_left
          · intro w hSw; (try dsimp only at hSw); go_simp; (try with_reducible rfl)
          (try go_simp)
          refine wpAnyH_take (i := 10) (v := ?_) rfl (by kernel_rfl) (by kernel_rfl) (by kernel_rfl) (fun _ _ _ h => h) (Or.inl ⟨by rfl, ?_⟩) (by assumption) ?_
          rotate_left
          · intro w hSw; (try dsimp only at hSw); go_simp; (try with_reducible rfl)
          (try go_simp)
          refine wpAnyH_ready (rs := [12]) (by kernel_rfl) (by simp) ?_
          refine AllReadyH.cons rfl (fun Kc hKc => ?_) AllReadyH.nil
          go_simp
          refine hKc.out _ _ ?_ (fun hHeld => ?_) <;> clear hKc Kc
          · (with_reducible exact ⟨grown_cell (b := w109.heap.size + 1) (grown_setCell (grown_setCell (grown_setCell (grown_refl _ _) _ _) _ _) _ _) hn0_1_0 xe1_0, grown_cell (b := w109.heap.size + 1) (grown_setCell (grown_setCell (grown_setCell (grown_refl _ _) _ _) _ _) _ _) hn0_1_0 xe1_1, grown_cell (b := w109.heap.size + 1) (grown_setCell (grown_setCell (grown_setCell (grown_refl _ _) _ _) _ _) _ _) hn0_1_0 xe1_2, grown_cell (b := w109.heap.size + 1) (grown_setCell (grown_setCell (grown_setCell (grown_refl _ _) _ _) _ _) _ _) hn0_1_1 xe1_3, grown_cell (b := w109.heap.size + 1) (grown_setCell (grown_setCell (grown_setCell (grown_refl _ _) _ _) _ _) _ _) hn0_1_1 xe1_4, grown_cell (b := w109.heap.size + 1) (grown_setCell (grown_setCell (grown_setCell (grown_refl _ _) _ _) _ _) _ _) hn0_1_1 xe1_5, grown_cell (b := w109.heap.size + 1) (grown_setCell (grown_setCell (grown_setCell (grown_refl _ _) _ _) _ _) _ _) hn0_1_2 xe1_6⟩)
          refine wpAnyH_ready (rs := [13]) (by kernel_rfl) (by simp) ?_
          refine AllReadyH.cons rfl (fun Kc hKc => ?_) AllReadyH.nil
          go_simp
          refine hKc.out _ _ ?_ (fun hHeld => ?_) <;> clear hKc Kc
          · (with_reducible exact ⟨grown_cell (b := w109.heap.size + 1) (grown_setCell (grown_setCell (grown_setCell (grown_refl _ _) _ _) _ _) _ _) hn0_1_0 xe1_0, grown_cell (b := w109.heap.size + 1) (grown_setCell (grown_setCell (grown_setCell (grown_refl _ _) _ _) _ _) _ _) hn0_1_0 xe1_1, grown_cell (b := w109.heap.size + 1) (grown_setCell (grown_setCell (grown_setCell (grown_refl _ _) _ _) _ _) _ _) hn0_1_0 xe1_2, grown_cell (b := w109.heap.size + 1) (grown_setCell (grown_setCell (grown_setCell (grown_refl _ _) _ _) _ _) _ _) hn0_1_1 xe1_3, grown_cell (b := w109.heap.size + 1) (grown_setCell (grown_setCell (grown_setCell (grown_refl _ _) _ _) _ _) _ _) hn0_1_1 xe1_4, grown_cell (b := w109.heap.size + 1) (grown_setCell (grown_setCell (grown_setCell (grown_refl _ _) _ _) _ _) _ _) hn0_1_1 xe1_5, grown_cell (b := w109.heap.size + 1) (grown_setCell (grown_setCell (grown_setCell (grown_refl _ _) _ _) _ _) _ _) hn0_1_2 xe1_6⟩)
          refine wpAnyH_done (by kernel_rfl) ?_ _
          go_wp2_with fail
          go_meet
          exact ⟨w109.heap.size + 1, ep1, en1, ec1, ep2, en2, ec2, ep3, en3, ec3, rfl, rfl, (((Y1.set 0 (.slice ep1 en1 ec1)).set 1 (.slice ep2 en2 ec2)).set 2 (.slice ep3 en3 ec3)), (((Ee1.setAt (by omega) _ _).setAt (by omega) _ _).setAt (by omega) _ _), (((o5m.setBelow (p := ⟨w109.heap.size + 1, 0, none⟩) (Nat.lt_succ_self _) _).setBelow (p := ⟨w109.heap.size + 1, 1, none⟩) (Nat.lt_succ_self _) _).setBelow (p := ⟨w109.heap.size + 1, 2, none⟩) (Nat.lt_succ_self _) _).mono (by omega)⟩
        refine AllReadyH.cons rfl (fun Kc hKc => ?_) AllReadyH.nil
        go_simp
        refine hKc.out _ _ ?_ (fun hHeld => ?_) <;> clear hKc Kc
        · (with_reducible exact ⟨(((Ext.refl w109).alloc _).drew).cell ir0_109, (((Ext.refl w109).alloc _).drew).cell ir1_109, (((Ext.refl w109).alloc _).drew).cell ir2_109, (((Ext.refl w109).alloc _).drew).cell it0_109, (((Ext.refl w109).alloc _).drew).cell it1_109, (((Ext.refl w109).alloc _).drew).cell it2_109, (((Ext.refl w109).alloc _).drew).cell id_109⟩)
        refine wpAnyH_ready (rs := [2]) (by kernel_rfl) (by simp) ?_
        refine AllReadyH.cons rfl (fun Kc hKc => ?_) AllReadyH.nil
        go_simp
        refine hKc.out _ _ ?_ (fun hHeld => ?_) <;> clear hKc Kc
        · (with_reducible exact ⟨((((Ext.refl w109).alloc _).alloc _).drew).cell ir0_109, ((((Ext.refl w109).alloc _).alloc _).drew).cell ir1_109, ((((Ext.refl w109).alloc _).alloc _).drew).cell ir2_109, ((((Ext.refl w109).alloc _).alloc _).drew).cell it0_109, ((((Ext.refl w109).alloc _).alloc _).drew).cell it1_109, ((((Ext.refl w109).alloc _).alloc _).drew).cell it2_109, ((((Ext.refl w109).alloc _).alloc _).drew).cell id_109⟩)
        refine wpAnyH_ready (rs := [7]) (by kernel_rfl) (by simp) ?_
        refine AllReadyH.cons rfl (fun Kc hKc => ?_) AllReadyH.nil
        go_simp; go_at_call 34
        have Eq0 : Ext w109 ((w109.alloc (.cells #[.slice none 0 0, .slice none 0 0, .slice none 0 0] 31)).alloc (.cells #[.int .i64 x, .int .i64 60, .int .i64 70] 3)).drew := ((((Ext.refl w109).alloc _).alloc _).drew); have su0 : IntS ((w109.alloc (.cells #[.slice none 0 0, .slice none 0 0, .slice none 0 0] 31)).alloc (.cells #[.int .i64 x, .int .i64 60, .int .i64 70] 3)).drew (.slice (some ⟨w109.heap.size + 1, 0, none⟩) 3 3) [x, 60, 70] := ((OwnI.of (B := 0) (l := [x, 60, 70]) (Nat.zero_le _) (Blk.newB (w := (w109.alloc (.cells #[.slice none 0 0, .slice none 0 0, .slice none 0 0] 31))) (c := #[.int .i64 x, .int .i64 60, .int .i64 70]) (b := w109.heap.size + 1) (by simp)) (by simp [maxLen])).ints.ext ((Ext.refl _).drew)); (with_reducible refine (deltaT_any HR.out UU.out S3.out D3.out hd3.1 (by omega) (List.mem_cons_self .. : x ∈ [x, 60, 70]) _ ((w109.alloc (.cells #[.slice none 0 0, .slice none 0 0, .slice none 0 0] 31)).alloc (.cells #[.int .i64 x, .int .i64 60, .int .i64 70] 3)).drew su0).mono ?_); rintro ee1 we1 ⟨v1, rfl, oe, he1⟩; have Ee1 : Ext w109 we1 := Eq0.trans he1; have xe1_0 := Ee1.cell ir0_109; have xe1_1 := Ee1.cell ir1_109; have xe1_2 := Ee1.cell ir2_109; have xe1_3 := Ee1.cell it0_109; have xe1_4 := Ee1.cell it1_109; have xe1_5 := Ee1.cell it2_109; have xe1_6 := Ee1.cell id_109; have he1zs := Ee1.size; have Y1 : Blk we1 (w109.heap.size) 31 [.slice none 0 0, .slice none 0 0, .slice none 0 0] := (((Blk.newB (w := w109) (c := #[.slice none 0 0, .slice none 0 0, .slice none 0 0]) (b := w109.heap.size) (by simp)).ext ((Ext.refl _).alloc _)).ext ((Ext.refl _).drew)).ext he1; have ltY1 := Y1.lt; obtain ⟨ep1, en1, ec1, ep2, en2, ec2, ep3, en3, ec3, rfl⟩ := oe.shape; have o4m := oe.mono (B' := w109.heap.size) Eq0.size; have o5m := oe.mono (B' := w109.heap.size + 1) (by first | (simp; done) | (simp; omega) | omega); have fb_0 := Y1.free 0; have yb_0 := Y1.cell (j := 0) rfl; have fb_1 := Y1.free 1; have yb_1 := Y1.cell (j := 1) rfl; have fb_2 := Y1.free 2; have yb_2 := Y1.cell (j := 2) rfl; have ylb := Y1.lt; have hn1_0_0 : w1.heap.size ≠ we1.heap.size := (by omega); have hn1_1_0 : w1.heap.size ≠ we1.heap.size + 1 := (by omega); have hn1_0_1 : w3.heap.size ≠ we1.heap.size := (by omega); have hn1_1_1 : w3.heap.size ≠ we1.heap.size + 1 := (by omega); have hn1_0_2 : b1 ≠ we1.heap.size := (by omega); have hn1_1_2 : b1 ≠ we1.heap.size + 1 := (by omega)
        (try go_simp)
        refine hKc.out _ _ ?_ (fun hHeld => ?_) <;> clear hKc Kc
        · (with_reducible exact ⟨xe1_0, xe1_1, xe1_2, xe1_3, xe1_4, xe1_5, xe1_6⟩)
        refine wpAnyH_take (i := 8) (v := ?_) rfl (by kernel_rfl) (by kernel_rfl) (by kernel_rfl) (fun _ _ _ h => h) (Or.inl ⟨by rfl, ?_⟩) (by assumption) ?_
        rotate_left
        · intro w hSw; (try dsimp only at hSw); go_simp; (try with_reducible rfl)
        (try go_simp)
        refine wpAnyH_take (i := 9) (v := ?_) rfl (by kernel_rfl) (by kernel_rfl) (by kernel_rfl) (fun _ _ _ h => h) (Or.inl ⟨by rfl, ?_⟩) (by assumption) ?_
        rotate_left
        · intro w hSw; (try dsimp only at hSw); go_simp; (try with_reducible rfl)
        (try go_simp)
        refine wpAnyH_take (i := 10) (v := ?_) rfl (by kernel_rfl) (by kernel_rfl) (by kernel_rfl) (fun _ _ _ h => h) (Or.inl ⟨by rfl, ?_⟩) (by assumption) ?_
        rotate_left
        · intro w hSw; (try dsimp only at hSw); go_simp; (try with_reducible rfl)
        (try go_simp)
        refine wpAnyH_ready (rs := [12]) (by kernel_rfl) (by simp) ?_
        refine AllReadyH.cons rfl (fun Kc hKc => ?_) AllReadyH.nil
        go_simp
        refine hKc.out _ _ ?_ (fun hHeld => ?_) <;> clear hKc Kc
        · (with_reducible exact ⟨grown_cell (b := w109.heap.size) (grown_setCell (grown_setCell (grown_setCell (grown_refl _ _) _ _) _ _) _ _) hn0_0_0 xe1_0, grown_cell (b := w109.heap.size) (grown_setCell (grown_setCell (grown_setCell (grown_refl _ _) _ _) _ _) _ _) hn0_0_0 xe1_1, grown_cell (b := w109.heap.size) (grown_setCell (grown_setCell (grown_setCell (grown_refl _ _) _ _) _ _) _ _) hn0_0_0 xe1_2, grown_cell (b := w109.heap.size) (grown_setCell (grown_setCell (grown_setCell (grown_refl _ _) _ _) _ _) _ _) hn0_0_1 xe1_3, grown_cell (b := w109.heap.size) (grown_setCell (grown_setCell (grown_setCell (grown_refl _ _) _ _) _ _) _ _) hn0_0_1 xe1_4, grown_cell (b := w109.heap.size) (grown_setCell (grown_setCell (grown_setCell (grown_refl _ _) _ _) _ _) _ _) hn0_0_1 xe1_5, grown_cell (b := w109.heap.size) (grown_setCell (grown_setCell (grown_setCell (grown_refl _ _) _ _) _ _) _ _) hn0_0_2 xe1_6⟩)
        refine wpAnyH_ready (rs := [13]) (by kernel_rfl) (by simp) ?_
        refine AllReadyH.cons rfl (fun Kc hKc => ?_) AllReadyH.nil
        go_simp
        refine hKc.out _ _ ?_ (fun hHeld => ?_) <;> clear hKc Kc
        · (with_reducible exact ⟨grown_cell (b := w109.heap.size) (grown_setCell (grown_setCell (grown_setCell (grown_refl _ _) _ _) _ _) _ _) hn0_0_0 xe1_0, grown_cell (b := w109.heap.size) (grown_setCell (grown_setCell (grown_setCell (grown_refl _ _) _ _) _ _) _ _) hn0_0_0 xe1_1, grown_cell (b := w109.heap.size) (grown_setCell (grown_setCell (grown_setCell (grown_refl _ _) _ _) _ _) _ _) hn0_0_0 xe1_2, grown_cell (b := w109.heap.size) (grown_setCell (grown_setCell (grown_setCell (grown_refl _ _) _ _) _ _) _ _) hn0_0_1 xe1_3, grown_cell (b := w109.heap.size) (grown_setCell (grown_setCell (grown_setCell (grown_refl _ _) _ _) _ _) _ _) hn0_0_1 xe1_4, grown_cell (b := w109.heap.size) (grown_setCell (grown_setCell (grown_setCell (grown_refl _ _) _ _) _ _) _ _) hn0_0_1 xe1_5, grown_cell (b := w109.heap.size) (grown_setCell (grown_setCell (grown_setCell (grown_refl _ _) _ _) _ _) _ _) hn0_0_2 xe1_6⟩)
        refine wpAnyH_done (by kernel_rfl) ?_ _
        go_wp2_with fail
        go_meet
        exact ⟨w109.heap.size, ep1, en1, ec1, ep2, en2, ec2, ep3, en3, ec3, rfl, rfl, (((Y1.set 0 (.slice ep1 en1 ec1)).set 1 (.slice ep2 en2 ec2)).set 2 (.slice ep3 en3 ec3)), (((Ee1.setAt (Nat.le_refl _) _ _).setAt (Nat.le_refl _) _ _).setAt (Nat.le_refl _) _ _), (((o5m.setBelow (p := ⟨w109.heap.size, 0, none⟩) (Nat.lt_succ_self _) _).setBelow (p := ⟨w109.heap.size, 1, none⟩) (Nat.lt_succ_self _) _).setBelow (p := ⟨w109.heap.size, 2, none⟩) (Nat.lt_succ_self _) _).mono (by omega)⟩
    obtain ⟨w110, rfl⟩ : ∃ x, x = wc := ⟨wc, rfl⟩
    obtain ⟨bu110, ep1, en1, ec1, ep2, en2, ec2, ep3, en3, ec3, rfl, rfl, Be110, h110, oe⟩ := hcut
    clear ir0_109 ir1_109 ir2_109 lr_109 it0_109 it1_109 it2_109 lt_109 ia0_109 ia1_109 ia2_109 la_109 ib0_109 ib1_109 ib2_109 lb_109
    have Br110 := (Br109.ext h110)
    clear Br109
    have ir0_110 := Br110.cell (j := 0) rfl
    have ir1_110 := Br110.cell (j := 1) rfl
    have ir2_110 := Br110.cell (j := 2) rfl
    have lr_110 := Br110.lt
    have Bt110 := (Bt109.ext h110)
    clear Bt109
    have it0_110 := Bt110.cell (j := 0) rfl
    have it1_110 := Bt110.cell (j := 1) rfl
    have it2_110 := Bt110.cell (j := 2) rfl
    have lt_110 := Bt110.lt
    have Ba110 := (Ba109.ext h110)
    clear Ba109
    have ia0_110 := Ba110.cell (j := 0) rfl
    have ia1_110 := Ba110.cell (j := 1) rfl
    have ia2_110 := Ba110.cell (j := 2) rfl
    have la_110 := Ba110.lt
    have Bb110 := (Bb109.ext h110)
    clear Bb109
    have ib0_110 := Bb110.cell (j := 0) rfl
    have ib1_110 := Bb110.cell (j := 1) rfl
    have ib2_110 := Bb110.cell (j := 2) rfl
    have lb_110 := Bb110.lt
    have Be110 := Be110
    have ie0_110 := Be110.cell (j := 0) rfl
    have ie1_110 := Be110.cell (j := 1) rfl
    have ie2_110 := Be110.cell (j := 2) rfl
    have le_110 := Be110.lt
    have hn0_0_0 : w1.heap.size ≠ w110.heap.size := (by omega)
    have hn0_1_0 : w1.heap.size ≠ w110.heap.size + 1 := (by omega)
    have hn0_0_1 : w3.heap.size ≠ w110.heap.size := (by omega)
    have hn0_1_1 : w3.heap.size ≠ w110.heap.size + 1 := (by omega)
    have hn0_0_2 : bu110 ≠ w110.heap.size := (by omega)
    have hn0_1_2 : bu110 ≠ w110.heap.size + 1 := (by omega)
    go_upto_region 13 with fail
    go_cut [16, 17] from 25 (fun q ok wx => ∃ bu fp1 fn1 fc1 fp2 fn2 fc2 fp3 fn3 fc3, q = .pointer (some ⟨bu, 0, none⟩) ∧ ok = .bool true ∧ Blk wx bu 31 [.slice fp1 fn1 fc1, .slice fp2 fn2 fc2, .slice fp3 fn3 fc3] ∧ Ext w110 wx ∧ OwnT wx w110.heap.size (.agg #[.slice fp1 fn1 fc1, .slice fp2 fn2 fc2, .slice fp3 fn3 fc3]) ((x :: L) ++ [60, 70]) (((x :: L) ++ [60, 70]).map (dmX x)) (flat (contrXs HR.out (dmX x) (x :: L) [x, 60, 70] ((x :: L) ++ [60, 70]) xs (deltaXs HR.out (dmX x) [x, 60, 70] x))))
    case first =>
      as_aux_lemma =>
        refine wp_region_held_drew (S := fun w' => w'.cell? ⟨w1.heap.size, 0, none⟩ = some (.int .i64 k) ∧ w'.cell? ⟨w1.heap.size, 1, none⟩ = some (.int .i64 p) ∧ w'.cell? ⟨w1.heap.size, 2, none⟩ = some (.int .i64 n) ∧ w'.cell? ⟨w3.heap.size, 0, none⟩ = some (.slice (some ⟨b0, f0, none⟩) (L.length + 1) tc1) ∧ w'.cell? ⟨w3.heap.size, 1, none⟩ = some (.slice (some ⟨b1, f1, none⟩) (L.length + 1) tc2) ∧ w'.cell? ⟨w3.heap.size, 2, none⟩ = some (.slice tp3 tn3 tc3) ∧ w'.cell? ⟨bu110, 0, none⟩ = some (.slice ep1 en1 ec1) ∧ w'.cell? ⟨bu110, 1, none⟩ = some (.slice ep2 en2 ec2) ∧ w'.cell? ⟨bu110, 2, none⟩ = some (.slice ep3 en3 ec3)) (by kernel_rfl) ?_ (fun hHeld => ?_)
        · (with_reducible exact ⟨((Ext.refl w110).drew).cell ir0_110, ((Ext.refl w110).drew).cell ir1_110, ((Ext.refl w110).drew).cell ir2_110, ((Ext.refl w110).drew).cell it0_110, ((Ext.refl w110).drew).cell it1_110, ((Ext.refl w110).drew).cell it2_110, ((Ext.refl w110).drew).cell ie0_110, ((Ext.refl w110).drew).cell ie1_110, ((Ext.refl w110).drew).cell ie2_110⟩)
        refine wpAnyH_take (i := 0) (v := ?_) rfl (by kernel_rfl) (by kernel_rfl) (by kernel_rfl) (fun _ _ _ h => h) (Or.inl ⟨by rfl, ?_⟩) (by assumption) ?_
        rotate_left
        · intro w hSw; (try dsimp only at hSw); go_simp; (try with_reducible rfl)
        (try go_simp)
        refine wpAnyH_take (i := 1) (v := ?_) rfl (by kernel_rfl) (by kernel_rfl) (by kernel_rfl) (fun _ _ _ h => h) (Or.inl ⟨by rfl, ?_⟩) (by assumption) ?_
        rotate_left
        · intro w hSw; (try dsimp only at hSw); go_simp; (try with_reducible rfl)
        (try go_simp)
        refine wpAnyH_take (i := 2) (v := ?_) rfl (by kernel_rfl) (by kernel_rfl) (by kernel_rfl) (fun _ _ _ h => h) (Or.inl ⟨by rfl, ?_⟩) (by assumption) ?_
        rotate_left
        · intro w hSw; (try dsimp only at hSw); go_simp; (try with_reducible rfl)
        (try go_simp)
        refine wpAnyH_take (i := 3) (v := ?_) rfl (by kernel_rfl) (by kernel_rfl) (by kernel_rfl) (fun _ _ _ h => h) (Or.inl ⟨by rfl, ?_⟩) (by assumption) ?_
        rotate_left
        · intro w hSw; (try dsimp only at hSw); go_simp; (try with_reducible rfl)
        (try go_simp)
        refine wpAnyH_take (i := 4) (v := ?_) rfl (by kernel_rfl) (by kernel_rfl) (by kernel_rfl) (fun _ _ _ h => h) (Or.inl ⟨by rfl, ?_⟩) (by assumption) ?_
        rotate_left
        · intro w hSw; (try dsimp only at hSw); go_simp; (try with_reducible rfl)
        (try go_simp)
        refine wpAnyH_ready (rs := [5, 11]) (by kernel_rfl) (by simp) ?_
        refine AllReadyH.cons rfl (fun Kc hKc => ?_) ?_
        · skip
          go_simp
          refine hKc.out _ _ ?_ (fun hHeld => ?_) <;> clear hKc Kc
          · (with_reducible exact ⟨(((Ext.refl w110).alloc _).drew).cell ir0_110, (((Ext.refl w110).alloc _).drew).cell ir1_110, (((Ext.refl w110).alloc _).drew).cell ir2_110, (((Ext.refl w110).alloc _).drew).cell it0_110, (((Ext.refl w110).alloc _).drew).cell it1_110, (((Ext.refl w110).alloc _).drew).cell it2_110, (((Ext.refl w110).alloc _).drew).cell ie0_110, (((Ext.refl w110).alloc _).drew).cell ie1_110, (((Ext.refl w110).alloc _).drew).cell ie2_110⟩)
          refine wpAnyH_ready (rs := [6, 11]) (by kernel_rfl) (by simp) ?_
          refine AllReadyH.cons rfl (fun Kc hKc => ?_) ?_
          · skip
            go_simp; go_at_call 21
            have Eq0 : Ext w110 (w110.alloc (.cells #[.int .i64 60, .int .i64 70] 3)).drew := (((Ext.refl w110).alloc _).drew); have su0 : IntS (w110.alloc (.cells #[.int .i64 60, .int .i64 70] 3)).drew (.slice (some ⟨w110.heap.size, 0, none⟩) 2 2) [60, 70] := ((OwnI.of (B := 0) (l := [60, 70]) (Nat.zero_le _) (Blk.newB (w := w110) (c := #[.int .i64 60, .int .i64 70]) (b := w110.heap.size) (by simp)) (by simp [maxLen])).ints.ext ((Ext.refl _).drew)); (with_reducible refine (lawsJoin_any _ _ (x :: L) [60, 70] (w110.alloc (.cells #[.int .i64 60, .int .i64 70] 3)).drew ((ot.tens.ext (h104.trans (h105.trans (h106.trans (h107.trans (h108.trans (h109.trans h110))))))).labsP.ext Eq0) su0 (by have := HL3.out; simp; omega) (by simp)).mono ?_); rintro ef1 wf1 ⟨vj, rfl, oj, hf1⟩; have Ef1 : Ext w110 wf1 := Eq0.trans hf1; have xf1_0 := Ef1.cell ir0_110; have xf1_1 := Ef1.cell ir1_110; have xf1_2 := Ef1.cell ir2_110; have xf1_3 := Ef1.cell it0_110; have xf1_4 := Ef1.cell it1_110; have xf1_5 := Ef1.cell it2_110; have xf1_6 := Ef1.cell ie0_110; have xf1_7 := Ef1.cell ie1_110; have xf1_8 := Ef1.cell ie2_110; have hf1zs := Ef1.size; obtain ⟨J, hJ⟩ : ∃ J, (x :: L) ++ [60, 70] = J := ⟨_, rfl⟩; rw [hJ] at oj; obtain ⟨aj1, aj2, rfl, _, _⟩ := oj.ints.val; have HJ := Lib.hid hJ; clear hJ; have hn1_0_0 : w1.heap.size ≠ wf1.heap.size := (by omega); have hn1_1_0 : w1.heap.size ≠ wf1.heap.size + 1 := (by omega); have hn1_0_1 : w3.heap.size ≠ wf1.heap.size := (by omega); have hn1_1_1 : w3.heap.size ≠ wf1.heap.size + 1 := (by omega); have hn1_0_2 : bu110 ≠ wf1.heap.size := (by omega); have hn1_1_2 : bu110 ≠ wf1.heap.size + 1 := (by omega)
            (try go_simp)
            refine hKc.out _ _ ?_ (fun hHeld => ?_) <;> clear hKc Kc
            · (with_reducible exact ⟨xf1_0, xf1_1, xf1_2, xf1_3, xf1_4, xf1_5, xf1_6, xf1_7, xf1_8⟩)
            refine wpAnyH_ready (rs := [7, 11]) (by kernel_rfl) (by simp) ?_
            refine AllReadyH.cons rfl (fun Kc hKc => ?_) ?_
            · skip
              go_simp; go_at_call 14
              have Eq1 : Ext w110 wf1 := Ef1; (with_reducible refine (contractPair_any HR.out Tt.out Te.out J _ _ _ wf1 ((ot.tens.ext (h104.trans (h105.trans (h106.trans (h107.trans (h108.trans (h109.trans h110))))))).ext Eq1) (oe.tens.ext Eq1) (oj.ints.ext (Ext.refl wf1))).mono ?_); rintro ef2 wf2 ⟨v3, rfl, of, hf2⟩; have Ef2 : Ext w110 wf2 := Eq1.trans hf2; have xf2_0 := Ef2.cell ir0_110; have xf2_1 := Ef2.cell ir1_110; have xf2_2 := Ef2.cell ir2_110; have xf2_3 := Ef2.cell it0_110; have xf2_4 := Ef2.cell it1_110; have xf2_5 := Ef2.cell it2_110; have xf2_6 := Ef2.cell ie0_110; have xf2_7 := Ef2.cell ie1_110; have xf2_8 := Ef2.cell ie2_110; have hf2zs := Ef2.size; rw [← HJ.out, HDG.out.1] at of; obtain ⟨fp1, fn1, fc1, fp2, fn2, fc2, fp3, fn3, fc3, rfl⟩ := of.shape; have o4m := of.mono (B' := w110.heap.size) Eq1.size; have hn2_0_0 : w1.heap.size ≠ wf2.heap.size := (by omega); have hn2_1_0 : w1.heap.size ≠ wf2.heap.size + 1 := (by omega); have hn2_0_1 : w3.heap.size ≠ wf2.heap.size := (by omega); have hn2_1_1 : w3.heap.size ≠ wf2.heap.size + 1 := (by omega); have hn2_0_2 : bu110 ≠ wf2.heap.size := (by omega); have hn2_1_2 : bu110 ≠ wf2.heap.size + 1 := (by omega)
              (try go_simp)
              refine hKc.out _ _ ?_ (fun hHeld => ?_) <;> clear hKc Kc
              · (with_reducible exact ⟨xf2_0, xf2_1, xf2_2, xf2_3, xf2_4, xf2_5, xf2_6, xf2_7, xf2_8⟩)
              refine wpAnyH_take (i := 8) (v := ?_) rfl (by kernel_rfl) (by kernel_rfl) (by kernel_rfl) (fun _ _ _ h => h) (Or.inl ⟨by rfl, ?_⟩) (by assumption) ?_
              rotate_left
              · intro w hSw; (try dsimp only at hSw); go_simp; (try with_reducible rfl)
              (try go_simp)
              refine wpAnyH_take (i := 9) (v := ?_) rfl (by kernel_rfl) (by kernel_rfl) (by kernel_rfl) (fun _ _ _ h => h) (Or.inl ⟨by rfl, ?_⟩) (by assumption) ?_
              rotate_left
              · intro w hSw; (try dsimp only at hSw); go_simp; (try with_reducible rfl)
              (try go_simp)
              refine wpAnyH_take (i := 10) (v := ?_) rfl (by kernel_rfl) (by kernel_rfl) (by kernel_rfl) (fun _ _ _ h => h) (Or.inl ⟨by rfl, ?_⟩) (by assumption) ?_
              rotate_left
              · intro w hSw; (try dsimp only at hSw); go_simp; (try with_reducible rfl)
              (try go_simp)
              refine wpAnyH_ready (rs := [11]) (by kernel_rfl) (by simp) ?_
              refine AllReadyH.cons rfl (fun Kc hKc => ?_) AllReadyH.nil
              go_simp
              refine hKc.out _ _ ?_ (fun hHeld => ?_) <;> clear hKc Kc
              · (with_reducible exact ⟨((Ext.refl wf2).alloc _).cell xf2_0, ((Ext.refl wf2).alloc _).cell xf2_1, ((Ext.refl wf2).alloc _).cell xf2_2, ((Ext.refl wf2).alloc _).cell xf2_3, ((Ext.refl wf2).alloc _).cell xf2_4, ((Ext.refl wf2).alloc _).cell xf2_5, ((Ext.refl wf2).alloc _).cell xf2_6, ((Ext.refl wf2).alloc _).cell xf2_7, ((Ext.refl wf2).alloc _).cell xf2_8⟩)
              refine wpAnyH_ready (rs := [12]) (by kernel_rfl) (by simp) ?_
              refine AllReadyH.cons rfl (fun Kc hKc => ?_) AllReadyH.nil
              go_simp
              refine hKc.out _ _ ?_ (fun hHeld => ?_) <;> clear hKc Kc
              · (with_reducible exact ⟨(Ef2.alloc _).cell ir0_110, (Ef2.alloc _).cell ir1_110, (Ef2.alloc _).cell ir2_110, (Ef2.alloc _).cell it0_110, (Ef2.alloc _).cell it1_110, (Ef2.alloc _).cell it2_110, (Ef2.alloc _).cell ie0_110, (Ef2.alloc _).cell ie1_110, (Ef2.alloc _).cell ie2_110⟩)
              refine wpAnyH_ready (rs := [13]) (by kernel_rfl) (by simp) ?_
              refine AllReadyH.cons rfl (fun Kc hKc => ?_) AllReadyH.nil
              go_simp
              refine hKc.out _ _ ?_ (fun hHeld => ?_) <;> clear hKc Kc
              · (with_reducible exact ⟨(Ef2.alloc _).cell ir0_110, (Ef2.alloc _).cell ir1_110, (Ef2.alloc _).cell ir2_110, (Ef2.alloc _).cell it0_110, (Ef2.alloc _).cell it1_110, (Ef2.alloc _).cell it2_110, (Ef2.alloc _).cell ie0_110, (Ef2.alloc _).cell ie1_110, (Ef2.alloc _).cell ie2_110⟩)
              refine wpAnyH_done (by kernel_rfl) ?_ _
              go_wp2_with fail
              go_meet
              exact ⟨wf2.heap.size, fp1, fn1, fc1, fp2, fn2, fc2, fp3, fn3, fc3, rfl, rfl, Blk.new wf2 #[.slice fp1 fn1 fc1, .slice fp2 fn2 fc2, .slice fp3 fn3 fc3] _, Ef2.alloc _, o4m.ext ((Ext.refl _).alloc _)⟩
            refine AllReadyH.cons rfl (fun Kc hKc => ?_) AllReadyH.nil
            go_simp
            refine hKc.out _ _ ?_ (fun hHeld => ?_) <;> clear hKc Kc
            · (with_reducible exact ⟨((Ext.refl wf1).alloc _).cell xf1_0, ((Ext.refl wf1).alloc _).cell xf1_1, ((Ext.refl wf1).alloc _).cell xf1_2, ((Ext.refl wf1).alloc _).cell xf1_3, ((Ext.refl wf1).alloc _).cell xf1_4, ((Ext.refl wf1).alloc _).cell xf1_5, ((Ext.refl wf1).alloc _).cell xf1_6, ((Ext.refl wf1).alloc _).cell xf1_7, ((Ext.refl wf1).alloc _).cell xf1_8⟩)
            refine wpAnyH_ready (rs := [7]) (by kernel_rfl) (by simp) ?_
            refine AllReadyH.cons rfl (fun Kc hKc => ?_) AllReadyH.nil
            go_simp; go_at_call 14
            have Eq1 : Ext w110 (wf1.alloc (.cells #[.slice none 0 0, .slice none 0 0, .slice none 0 0] 31)) := (Ef1.alloc _); (with_reducible refine (contractPair_any HR.out Tt.out Te.out J _ _ _ (wf1.alloc (.cells #[.slice none 0 0, .slice none 0 0, .slice none 0 0] 31)) ((ot.tens.ext (h104.trans (h105.trans (h106.trans (h107.trans (h108.trans (h109.trans h110))))))).ext Eq1) (oe.tens.ext Eq1) (oj.ints.ext ((Ext.refl wf1).alloc _))).mono ?_); rintro ef2 wf2 ⟨v3, rfl, of, hf2⟩; have Ef2 : Ext w110 wf2 := Eq1.trans hf2; have xf2_0 := Ef2.cell ir0_110; have xf2_1 := Ef2.cell ir1_110; have xf2_2 := Ef2.cell ir2_110; have xf2_3 := Ef2.cell it0_110; have xf2_4 := Ef2.cell it1_110; have xf2_5 := Ef2.cell it2_110; have xf2_6 := Ef2.cell ie0_110; have xf2_7 := Ef2.cell ie1_110; have xf2_8 := Ef2.cell ie2_110; have hf2zs := Ef2.size; have Y2 : Blk wf2 (wf1.heap.size) 31 [.slice none 0 0, .slice none 0 0, .slice none 0 0] := (Blk.newB (w := wf1) (c := #[.slice none 0 0, .slice none 0 0, .slice none 0 0]) (b := wf1.heap.size) (by simp)).ext hf2; have ltY2 := Y2.lt; rw [← HJ.out, HDG.out.1] at of; obtain ⟨fp1, fn1, fc1, fp2, fn2, fc2, fp3, fn3, fc3, rfl⟩ := of.shape; have o4m := of.mono (B' := w110.heap.size) Eq1.size; have o5m := of.mono (B' := wf1.heap.size + 1) (by first | (simp; done) | (simp; omega) | omega); have fb_0 := Y2.free 0; have yb_0 := Y2.cell (j := 0) rfl; have fb_1 := Y2.free 1; have yb_1 := Y2.cell (j := 1) rfl; have fb_2 := Y2.free 2; have yb_2 := Y2.cell (j := 2) rfl; have ylb := Y2.lt; have hn2_0_0 : w1.heap.size ≠ wf2.heap.size := (by omega); have hn2_1_0 : w1.heap.size ≠ wf2.heap.size + 1 := (by omega); have hn2_0_1 : w3.heap.size ≠ wf2.heap.size := (by omega); have hn2_1_1 : w3.heap.size ≠ wf2.heap.size + 1 := (by omega); have hn2_0_2 : bu110 ≠ wf2.heap.size := (by omega); have hn2_1_2 : bu110 ≠ wf2.heap.size + 1 := (by omega)
            (try go_simp)
            refine hKc.out _ _ ?_ (fun hHeld => ?_) <;> clear hKc Kc
            · (with_reducible exact ⟨xf2_0, xf2_1, xf2_2, xf2_3, xf2_4, xf2_5, xf2_6, xf2_7, xf2_8⟩)
            refine wpAnyH_take (i := 8) (v := ?_) rfl (by kernel_rfl) (by kernel_rfl) (by kernel_rfl) (fun _ _ _ h => h) (Or.inl ⟨by rfl, ?_⟩) (by assumption) ?_
            rotate_left
            · intro w hSw; (try dsimp only at hSw); go_simp; (try with_reducible rfl)
            (try go_simp)
            refine wpAnyH_take (i := 9) (v := ?_) rfl (by kernel_rfl) (by kernel_rfl) (by kernel_rfl) (fun _ _ _ h => h) (Or.inl ⟨by rfl, ?_⟩) (by assumption) ?_
            rotate_left
            · intro w hSw; (try dsimp only at hSw); go_simp; (try with_reducible rfl)
            (try go_simp)
            refine wpAnyH_take (i := 10) (v := ?_) rfl (by kernel_rfl) (by kernel_rfl) (by kernel_rfl) (fun _ _ _ h => h) (Or.inl ⟨by rfl, ?_⟩) (by assumption) ?_
            rotate_left
            · intro w hSw; (try dsimp only at hSw); go_simp; (try with_reducible rfl)
            (try go_simp)
            refine wpAnyH_ready (rs := [12]) (by kernel_rfl) (by simp) ?_
            refine AllReadyH.cons rfl (fun Kc hKc => ?_) AllReadyH.nil
            go_simp
            refine hKc.out _ _ ?_ (fun hHeld => ?_) <;> clear hKc Kc
            · (with_reducible exact ⟨grown_cell (b := wf1.heap.size) (grown_setCell (grown_setCell (grown_setCell (grown_refl _ _) _ _) _ _) _ _) hn1_0_0 xf2_0, grown_cell (b := wf1.heap.size) (grown_setCell (grown_setCell (grown_setCell (grown_refl _ _) _ _) _ _) _ _) hn1_0_0 xf2_1, grown_cell (b := wf1.heap.size) (grown_setCell (grown_setCell (grown_setCell (grown_refl _ _) _ _) _ _) _ _) hn1_0_0 xf2_2, grown_cell (b := wf1.heap.size) (grown_setCell (grown_setCell (grown_setCell (grown_refl _ _) _ _) _ _) _ _) hn1_0_1 xf2_3, grown_cell (b := wf1.heap.size) (grown_setCell (grown_setCell (grown_setCell (grown_refl _ _) _ _) _ _) _ _) hn1_0_1 xf2_4, grown_cell (b := wf1.heap.size) (grown_setCell (grown_setCell (grown_setCell (grown_refl _ _) _ _) _ _) _ _) hn1_0_1 xf2_5, grown_cell (b := wf1.heap.size) (grown_setCell (grown_setCell (grown_setCell (grown_refl _ _) _ _) _ _) _ _) hn1_0_2 xf2_6, grown_cell (b := wf1.heap.size) (grown_setCell (grown_setCell (grown_setCell (grown_refl _ _) _ _) _ _) _ _) hn1_0_2 xf2_7, grown_cell (b := wf1.heap.size) (grown_setCell (grown_setCell (grown_setCell (grown_refl _ _) _ _) _ _) _ _) hn1_0_2 xf2_8⟩)
            refine wpAnyH_ready (rs := [13]) (by kernel_rfl) (by simp) ?_
            refine AllReadyH.cons rfl (fun Kc hKc => ?_) AllReadyH.nil
            go_simp
            refine hKc.out _ _ ?_ (fun hHeld => ?_) <;> clear hKc Kc
            · (with_reducible exact ⟨grown_cell (b := wf1.heap.size) (grown_setCell (grown_setCell (grown_setCell (grown_refl _ _) _ _) _ _) _ _) hn1_0_0 xf2_0, grown_cell (b := wf1.heap.size) (grown_setCell (grown_setCell (grown_setCell (grown_refl _ _) _ _) _ _) _ _) hn1_0_0 xf2_1, grown_cell (b := wf1.heap.size) (grown_setCell (grown_setCell (grown_setCell (grown_refl _ _) _ _) _ _) _ _) hn1_0_0 xf2_2, grown_cell (b := wf1.heap.size) (grown_setCell (grown_setCell (grown_setCell (grown_refl _ _) _ _) _ _) _ _) hn1_0_1 xf2_3, grown_cell (b := wf1.heap.size) (grown_setCell (grown_setCell (grown_setCell (grown_refl _ _) _ _) _ _) _ _) hn1_0_1 xf2_4, grown_cell (b := wf1.heap.size) (grown_setCell (grown_setCell (grown_setCell (grown_refl _ _) _ _) _ _) _ _) hn1_0_1 xf2_5, grown_cell (b := wf1.heap.size) (grown_setCell (grown_setCell (grown_setCell (grown_refl _ _) _ _) _ _) _ _) hn1_0_2 xf2_6, grown_cell (b := wf1.heap.size) (grown_setCell (grown_setCell (grown_setCell (grown_refl _ _) _ _) _ _) _ _) hn1_0_2 xf2_7, grown_cell (b := wf1.heap.size) (grown_setCell (grown_setCell (grown_setCell (grown_refl _ _) _ _) _ _) _ _) hn1_0_2 xf2_8⟩)
            refine wpAnyH_done (by kernel_rfl) ?_ _
            go_wp2_with fail
            go_meet
            exact ⟨wf1.heap.size, fp1, fn1, fc1, fp2, fn2, fc2, fp3, fn3, fc3, rfl, rfl, (((Y2.set 0 (.slice fp1 fn1 fc1)).set 1 (.slice fp2 fn2 fc2)).set 2 (.slice fp3 fn3 fc3)), (((Ef2.setAt (by omega) _ _).setAt (by omega) _ _).setAt (by omega) _ _), (((o5m.setBelow (p := ⟨wf1.heap.size, 0, none⟩) (Nat.lt_succ_self _) _).setBelow (p := ⟨wf1.heap.size, 1, none⟩) (Nat.lt_succ_self _) _).setBelow (p := ⟨wf1.heap.size, 2, none⟩) (Nat.lt_succ_self _) _).mono (by omega)⟩
          refine AllReadyH.cons rfl (fun Kc hKc => ?_) AllReadyH.nil
          go_simp
          refine hKc.out _ _ ?_ (fun hHeld => ?_) <;> clear hKc Kc
          · (with_reducible exact ⟨((((Ext.refl w110).alloc _).alloc _).drew).cell ir0_110, ((((Ext.refl w110).alloc _).alloc _).drew).cell ir1_110, ((((Ext.refl w110).alloc _).alloc _).drew).cell ir2_110, ((((Ext.refl w110).alloc _).alloc _).drew).cell it0_110, ((((Ext.refl w110).alloc _).alloc _).drew).cell it1_110, ((((Ext.refl w110).alloc _).alloc _).drew).cell it2_110, ((((Ext.refl w110).alloc _).alloc _).drew).cell ie0_110, ((((Ext.refl w110).alloc _).alloc _).drew).cell ie1_110, ((((Ext.refl w110).alloc _).alloc _).drew).cell ie2_110⟩)
          refine wpAnyH_ready (rs := [6]) (by kernel_rfl) (by simp) ?_
          refine AllReadyH.cons rfl (fun Kc hKc => ?_) AllReadyH.nil
          go_simp; go_at_call 21
          have Eq0 : Ext w110 ((w110.alloc (.cells #[.int .i64 60, .int .i64 70] 3)).alloc (.cells #[.slice none 0 0, .slice none 0 0, .slice none 0 0] 31)).drew := ((((Ext.refl w110).alloc _).alloc _).drew); have su0 : IntS ((w110.alloc (.cells #[.int .i64 60, .int .i64 70] 3)).alloc (.cells #[.slice none 0 0, .slice none 0 0, .slice none 0 0] 31)).drew (.slice (some ⟨w110.heap.size, 0, none⟩) 2 2) [60, 70] := (((OwnI.of (B := 0) (l := [60, 70]) (Nat.zero_le _) (Blk.newB (w := w110) (c := #[.int .i64 60, .int .i64 70]) (b := w110.heap.size) (by simp)) (by simp [maxLen])).ints.ext ((Ext.refl _).alloc _)).ext ((Ext.refl _).drew)); (with_reducible refine (lawsJoin_any _ _ (x :: L) [60, 70] ((w110.alloc (.cells #[.int .i64 60, .int .i64 70] 3)).alloc (.cells #[.slice none 0 0, .slice none 0 0, .slice none 0 0] 31)).drew ((ot.tens.ext (h104.trans (h105.trans (h106.trans (h107.trans (h108.trans (h109.trans h110))))))).labsP.ext Eq0) su0 (by have := HL3.out; simp; omega) (by simp)).mono ?_); rintro ef1 wf1 ⟨vj, rfl, oj, hf1⟩; have Ef1 : Ext w110 wf1 := Eq0.trans hf1; have xf1_0 := Ef1.cell ir0_110; have xf1_1 := Ef1.cell ir1_110; have xf1_2 := Ef1.cell ir2_110; have xf1_3 := Ef1.cell it0_110; have xf1_4 := Ef1.cell it1_110; have xf1_5 := Ef1.cell it2_110; have xf1_6 := Ef1.cell ie0_110; have xf1_7 := Ef1.cell ie1_110; have xf1_8 := Ef1.cell ie2_110; have hf1zs := Ef1.size; have Y1 : Blk wf1 (w110.heap.size + 1) 31 [.slice none 0 0, .slice none 0 0, .slice none 0 0] := ((Blk.newB (w := (w110.alloc (.cells #[.int .i64 60, .int .i64 70] 3))) (c := #[.slice none 0 0, .slice none 0 0, .slice none 0 0]) (b := w110.heap.size + 1) (by simp)).ext ((Ext.refl _).drew)).ext hf1; have ltY1 := Y1.lt; obtain ⟨J, hJ⟩ : ∃ J, (x :: L) ++ [60, 70] = J := ⟨_, rfl⟩; rw [hJ] at oj; obtain ⟨aj1, aj2, rfl, _, _⟩ := oj.ints.val; have HJ := Lib.hid hJ; clear hJ; have hn1_0_0 : w1.heap.size ≠ wf1.heap.size := (by omega); have hn1_1_0 : w1.heap.size ≠ wf1.heap.size + 1 := (by omega); have hn1_0_1 : w3.heap.size ≠ wf1.heap.size := (by omega); have hn1_1_1 : w3.heap.size ≠ wf1.heap.size + 1 := (by omega); have hn1_0_2 : bu110 ≠ wf1.heap.size := (by omega); have hn1_1_2 : bu110 ≠ wf1.heap.size + 1 := (by omega)
          (try go_simp)
          refine hKc.out _ _ ?_ (fun hHeld => ?_) <;> clear hKc Kc
          · (with_reducible exact ⟨xf1_0, xf1_1, xf1_2, xf1_3, xf1_4, xf1_5, xf1_6, xf1_7, xf1_8⟩)
          refine wpAnyH_ready (rs := [7]) (by kernel_rfl) (by simp) ?_
          refine AllReadyH.cons rfl (fun Kc hKc => ?_) AllReadyH.nil
          go_simp; go_at_call 14
          have Eq1 : Ext w110 wf1 := Ef1; (with_reducible refine (contractPair_any HR.out Tt.out Te.out J _ _ _ wf1 ((ot.tens.ext (h104.trans (h105.trans (h106.trans (h107.trans (h108.trans (h109.trans h110))))))).ext Eq1) (oe.tens.ext Eq1) (oj.ints.ext (Ext.refl wf1))).mono ?_); rintro ef2 wf2 ⟨v3, rfl, of, hf2⟩; have Ef2 : Ext w110 wf2 := Eq1.trans hf2; have xf2_0 := Ef2.cell ir0_110; have xf2_1 := Ef2.cell ir1_110; have xf2_2 := Ef2.cell ir2_110; have xf2_3 := Ef2.cell it0_110; have xf2_4 := Ef2.cell it1_110; have xf2_5 := Ef2.cell it2_110; have xf2_6 := Ef2.cell ie0_110; have xf2_7 := Ef2.cell ie1_110; have xf2_8 := Ef2.cell ie2_110; have hf2zs := Ef2.size; have Y2 : Blk wf2 (w110.heap.size + 1) 31 [.slice none 0 0, .slice none 0 0, .slice none 0 0] := Y1.ext hf2; have ltY2 := Y2.lt; rw [← HJ.out, HDG.out.1] at of; obtain ⟨fp1, fn1, fc1, fp2, fn2, fc2, fp3, fn3, fc3, rfl⟩ := of.shape; have o4m := of.mono (B' := w110.heap.size) Eq1.size; have o5m := of.mono (B' := w110.heap.size + 1 + 1) (by first | (simp; done) | (simp; omega) | omega); have fb_0 := Y2.free 0; have yb_0 := Y2.cell (j := 0) rfl; have fb_1 := Y2.free 1; have yb_1 := Y2.cell (j := 1) rfl; have fb_2 := Y2.free 2; have yb_2 := Y2.cell (j := 2) rfl; have ylb := Y2.lt; have hn2_0_0 : w1.heap.size ≠ wf2.heap.size := (by omega); have hn2_1_0 : w1.heap.size ≠ wf2.heap.size + 1 := (by omega); have hn2_0_1 : w3.heap.size ≠ wf2.heap.size := (by omega); have hn2_1_1 : w3.heap.size ≠ wf2.heap.size + 1 := (by omega); have hn2_0_2 : bu110 ≠ wf2.heap.size := (by omega); have hn2_1_2 : bu110 ≠ wf2.heap.size + 1 := (by omega)
          (try go_simp)
          refine hKc.out _ _ ?_ (fun hHeld => ?_) <;> clear hKc Kc
          · (with_reducible exact ⟨xf2_0, xf2_1, xf2_2, xf2_3, xf2_4, xf2_5, xf2_6, xf2_7, xf2_8⟩)
          refine wpAnyH_take (i := 8) (v := ?_) rfl (by kernel_rfl) (by kernel_rfl) (by kernel_rfl) (fun _ _ _ h => h) (Or.inl ⟨by rfl, ?_⟩) (by assumption) ?_
          rotate_left
          · intro w hSw; (try dsimp only at hSw); go_simp; (try with_reducible rfl)
          (try go_simp)
          refine wpAnyH_take (i := 9) (v := ?_) rfl (by kernel_rfl) (by kernel_rfl) (by kernel_rfl) (fun _ _ _ h => h) (Or.inl ⟨by rfl, ?_⟩) (by assumption) ?_
          rotate_left
          · intro w hSw; (try dsimp only at hSw); go_simp; (try with_reducible rfl)
          (try go_simp)
          refine wpAnyH_take (i := 10) (v := ?_) rfl (by kernel_rfl) (by kernel_rfl) (by kernel_rfl) (fun _ _ _ h => h) (Or.inl ⟨by rfl, ?_⟩) (by assumption) ?_
          rotate_left
          · intro w hSw; (try dsimp only at hSw); go_simp; (try with_reducible rfl)
          (try go_simp)
          refine wpAnyH_ready (rs := [12]) (by kernel_rfl) (by simp) ?_
          refine AllReadyH.cons rfl (fun Kc hKc => ?_) AllReadyH.nil
          go_simp
          refine hKc.out _ _ ?_ (fun hHeld => ?_) <;> clear hKc Kc
          · (with_reducible exact ⟨grown_cell (b := w110.heap.size + 1) (grown_setCell (grown_setCell (grown_setCell (grown_refl _ _) _ _) _ _) _ _) hn0_1_0 xf2_0, grown_cell (b := w110.heap.size + 1) (grown_setCell (grown_setCell (grown_setCell (grown_refl _ _) _ _) _ _) _ _) hn0_1_0 xf2_1, grown_cell (b := w110.heap.size + 1) (grown_setCell (grown_setCell (grown_setCell (grown_refl _ _) _ _) _ _) _ _) hn0_1_0 xf2_2, grown_cell (b := w110.heap.size + 1) (grown_setCell (grown_setCell (grown_setCell (grown_refl _ _) _ _) _ _) _ _) hn0_1_1 xf2_3, grown_cell (b := w110.heap.size + 1) (grown_setCell (grown_setCell (grown_setCell (grown_refl _ _) _ _) _ _) _ _) hn0_1_1 xf2_4, grown_cell (b := w110.heap.size + 1) (grown_setCell (grown_setCell (grown_setCell (grown_refl _ _) _ _) _ _) _ _) hn0_1_1 xf2_5, grown_cell (b := w110.heap.size + 1) (grown_setCell (grown_setCell (grown_setCell (grown_refl _ _) _ _) _ _) _ _) hn0_1_2 xf2_6, grown_cell (b := w110.heap.size + 1) (grown_setCell (grown_setCell (grown_setCell (grown_refl _ _) _ _) _ _) _ _) hn0_1_2 xf2_7, grown_cell (b := w110.heap.size + 1) (grown_setCell (grown_setCell (grown_setCell (grown_refl _ _) _ _) _ _) _ _) hn0_1_2 xf2_8⟩)
          refine wpAnyH_ready (rs := [13]) (by kernel_rfl) (by simp) ?_
          refine AllReadyH.cons rfl (fun Kc hKc => ?_) AllReadyH.nil
          go_simp
          refine hKc.out _ _ ?_ (fun hHeld => ?_) <;> clear hKc Kc
          · (with_reducible exact ⟨grown_cell (b := w110.heap.size + 1) (grown_setCell (grown_setCell (grown_setCell (grown_refl _ _) _ _) _ _) _ _) hn0_1_0 xf2_0, grown_cell (b := w110.heap.size + 1) (grown_setCell (grown_setCell (grown_setCell (grown_refl _ _) _ _) _ _) _ _) hn0_1_0 xf2_1, grown_cell (b := w110.heap.size + 1) (grown_setCell (grown_setCell (grown_setCell (grown_refl _ _) _ _) _ _) _ _) hn0_1_0 xf2_2, grown_cell (b := w110.heap.size + 1) (grown_setCell (grown_setCell (grown_setCell (grown_refl _ _) _ _) _ _) _ _) hn0_1_1 xf2_3, grown_cell (b := w110.heap.size + 1) (grown_setCell (grown_setCell (grown_setCell (grown_refl _ _) _ _) _ _) _ _) hn0_1_1 xf2_4, grown_cell (b := w110.heap.size + 1) (grown_setCell (grown_setCell (grown_setCell (grown_refl _ _) _ _) _ _) _ _) hn0_1_1 xf2_5, grown_cell (b := w110.heap.size + 1) (grown_setCell (grown_setCell (grown_setCell (grown_refl _ _) _ _) _ _) _ _) hn0_1_2 xf2_6, grown_cell (b := w110.heap.size + 1) (grown_setCell (grown_setCell (grown_setCell (grown_refl _ _) _ _) _ _) _ _) hn0_1_2 xf2_7, grown_cell (b := w110.heap.size + 1) (grown_setCell (grown_setCell (grown_setCell (grown_refl _ _) _ _) _ _) _ _) hn0_1_2 xf2_8⟩)
          refine wpAnyH_done (by kernel_rfl) ?_ _
          go_wp2_with fail
          go_meet
          exact ⟨w110.heap.size + 1, fp1, fn1, fc1, fp2, fn2, fc2, fp3, fn3, fc3, rfl, rfl, (((Y2.set 0 (.slice fp1 fn1 fc1)).set 1 (.slice fp2 fn2 fc2)).set 2 (.slice fp3 fn3 fc3)), (((Ef2.setAt (by omega) _ _).setAt (by omega) _ _).setAt (by omega) _ _), (((o5m.setBelow (p := ⟨w110.heap.size + 1, 0, none⟩) (Nat.lt_succ_self _) _).setBelow (p := ⟨w110.heap.size + 1, 1, none⟩) (Nat.lt_succ_self _) _).setBelow (p := ⟨w110.heap.size + 1, 2, none⟩) (Nat.lt_succ_self _) _).mono (by omega)⟩
        refine AllReadyH.cons rfl (fun Kc hKc => ?_) AllReadyH.nil
        go_simp
        refine hKc.out _ _ ?_ (fun hHeld => ?_) <;> clear hKc Kc
        · (with_reducible exact ⟨(((Ext.refl w110).alloc _).drew).cell ir0_110, (((Ext.refl w110).alloc _).drew).cell ir1_110, (((Ext.refl w110).alloc _).drew).cell ir2_110, (((Ext.refl w110).alloc _).drew).cell it0_110, (((Ext.refl w110).alloc _).drew).cell it1_110, (((Ext.refl w110).alloc _).drew).cell it2_110, (((Ext.refl w110).alloc _).drew).cell ie0_110, (((Ext.refl w110).alloc _).drew).cell ie1_110, (((Ext.refl w110).alloc _).drew).cell ie2_110⟩)
        refine wpAnyH_ready (rs := [5]) (by kernel_rfl) (by simp) ?_
        refine AllReadyH.cons rfl (fun Kc hKc => ?_) AllReadyH.nil
        go_simp
        refine hKc.out _ _ ?_ (fun hHeld => ?_) <;> clear hKc Kc
        · (with_reducible exact ⟨((((Ext.refl w110).alloc _).alloc _).drew).cell ir0_110, ((((Ext.refl w110).alloc _).alloc _).drew).cell ir1_110, ((((Ext.refl w110).alloc _).alloc _).drew).cell ir2_110, ((((Ext.refl w110).alloc _).alloc _).drew).cell it0_110, ((((Ext.refl w110).alloc _).alloc _).drew).cell it1_110, ((((Ext.refl w110).alloc _).alloc _).drew).cell it2_110, ((((Ext.refl w110).alloc _).alloc _).drew).cell ie0_110, ((((Ext.refl w110).alloc _).alloc _).drew).cell ie1_110, ((((Ext.refl w110).alloc _).alloc _).drew).cell ie2_110⟩)
        refine wpAnyH_ready (rs := [6]) (by kernel_rfl) (by simp) ?_
        refine AllReadyH.cons rfl (fun Kc hKc => ?_) AllReadyH.nil
        go_simp; go_at_call 21
        have Eq0 : Ext w110 ((w110.alloc (.cells #[.slice none 0 0, .slice none 0 0, .slice none 0 0] 31)).alloc (.cells #[.int .i64 60, .int .i64 70] 3)).drew := ((((Ext.refl w110).alloc _).alloc _).drew); have su0 : IntS ((w110.alloc (.cells #[.slice none 0 0, .slice none 0 0, .slice none 0 0] 31)).alloc (.cells #[.int .i64 60, .int .i64 70] 3)).drew (.slice (some ⟨w110.heap.size + 1, 0, none⟩) 2 2) [60, 70] := ((OwnI.of (B := 0) (l := [60, 70]) (Nat.zero_le _) (Blk.newB (w := (w110.alloc (.cells #[.slice none 0 0, .slice none 0 0, .slice none 0 0] 31))) (c := #[.int .i64 60, .int .i64 70]) (b := w110.heap.size + 1) (by simp)) (by simp [maxLen])).ints.ext ((Ext.refl _).drew)); (with_reducible refine (lawsJoin_any _ _ (x :: L) [60, 70] ((w110.alloc (.cells #[.slice none 0 0, .slice none 0 0, .slice none 0 0] 31)).alloc (.cells #[.int .i64 60, .int .i64 70] 3)).drew ((ot.tens.ext (h104.trans (h105.trans (h106.trans (h107.trans (h108.trans (h109.trans h110))))))).labsP.ext Eq0) su0 (by have := HL3.out; simp; omega) (by simp)).mono ?_); rintro ef1 wf1 ⟨vj, rfl, oj, hf1⟩; have Ef1 : Ext w110 wf1 := Eq0.trans hf1; have xf1_0 := Ef1.cell ir0_110; have xf1_1 := Ef1.cell ir1_110; have xf1_2 := Ef1.cell ir2_110; have xf1_3 := Ef1.cell it0_110; have xf1_4 := Ef1.cell it1_110; have xf1_5 := Ef1.cell it2_110; have xf1_6 := Ef1.cell ie0_110; have xf1_7 := Ef1.cell ie1_110; have xf1_8 := Ef1.cell ie2_110; have hf1zs := Ef1.size; have Y1 : Blk wf1 (w110.heap.size) 31 [.slice none 0 0, .slice none 0 0, .slice none 0 0] := (((Blk.newB (w := w110) (c := #[.slice none 0 0, .slice none 0 0, .slice none 0 0]) (b := w110.heap.size) (by simp)).ext ((Ext.refl _).alloc _)).ext ((Ext.refl _).drew)).ext hf1; have ltY1 := Y1.lt; obtain ⟨J, hJ⟩ : ∃ J, (x :: L) ++ [60, 70] = J := ⟨_, rfl⟩; rw [hJ] at oj; obtain ⟨aj1, aj2, rfl, _, _⟩ := oj.ints.val; have HJ := Lib.hid hJ; clear hJ; have hn1_0_0 : w1.heap.size ≠ wf1.heap.size := (by omega); have hn1_1_0 : w1.heap.size ≠ wf1.heap.size + 1 := (by omega); have hn1_0_1 : w3.heap.size ≠ wf1.heap.size := (by omega); have hn1_1_1 : w3.heap.size ≠ wf1.heap.size + 1 := (by omega); have hn1_0_2 : bu110 ≠ wf1.heap.size := (by omega); have hn1_1_2 : bu110 ≠ wf1.heap.size + 1 := (by omega)
        (try go_simp)
        refine hKc.out _ _ ?_ (fun hHeld => ?_) <;> clear hKc Kc
        · (with_reducible exact ⟨xf1_0, xf1_1, xf1_2, xf1_3, xf1_4, xf1_5, xf1_6, xf1_7, xf1_8⟩)
        refine wpAnyH_ready (rs := [7]) (by kernel_rfl) (by simp) ?_
        refine AllReadyH.cons rfl (fun Kc hKc => ?_) AllReadyH.nil
        go_simp; go_at_call 14
        have Eq1 : Ext w110 wf1 := Ef1; (with_reducible refine (contractPair_any HR.out Tt.out Te.out J _ _ _ wf1 ((ot.tens.ext (h104.trans (h105.trans (h106.trans (h107.trans (h108.trans (h109.trans h110))))))).ext Eq1) (oe.tens.ext Eq1) (oj.ints.ext (Ext.refl wf1))).mono ?_); rintro ef2 wf2 ⟨v3, rfl, of, hf2⟩; have Ef2 : Ext w110 wf2 := Eq1.trans hf2; have xf2_0 := Ef2.cell ir0_110; have xf2_1 := Ef2.cell ir1_110; have xf2_2 := Ef2.cell ir2_110; have xf2_3 := Ef2.cell it0_110; have xf2_4 := Ef2.cell it1_110; have xf2_5 := Ef2.cell it2_110; have xf2_6 := Ef2.cell ie0_110; have xf2_7 := Ef2.cell ie1_110; have xf2_8 := Ef2.cell ie2_110; have hf2zs := Ef2.size; have Y2 : Blk wf2 (w110.heap.size) 31 [.slice none 0 0, .slice none 0 0, .slice none 0 0] := Y1.ext hf2; have ltY2 := Y2.lt; rw [← HJ.out, HDG.out.1] at of; obtain ⟨fp1, fn1, fc1, fp2, fn2, fc2, fp3, fn3, fc3, rfl⟩ := of.shape; have o4m := of.mono (B' := w110.heap.size) Eq1.size; have o5m := of.mono (B' := w110.heap.size + 1) (by first | (simp; done) | (simp; omega) | omega); have fb_0 := Y2.free 0; have yb_0 := Y2.cell (j := 0) rfl; have fb_1 := Y2.free 1; have yb_1 := Y2.cell (j := 1) rfl; have fb_2 := Y2.free 2; have yb_2 := Y2.cell (j := 2) rfl; have ylb := Y2.lt; have hn2_0_0 : w1.heap.size ≠ wf2.heap.size := (by omega); have hn2_1_0 : w1.heap.size ≠ wf2.heap.size + 1 := (by omega); have hn2_0_1 : w3.heap.size ≠ wf2.heap.size := (by omega); have hn2_1_1 : w3.heap.size ≠ wf2.heap.size + 1 := (by omega); have hn2_0_2 : bu110 ≠ wf2.heap.size := (by omega); have hn2_1_2 : bu110 ≠ wf2.heap.size + 1 := (by omega)
        (try go_simp)
        refine hKc.out _ _ ?_ (fun hHeld => ?_) <;> clear hKc Kc
        · (with_reducible exact ⟨xf2_0, xf2_1, xf2_2, xf2_3, xf2_4, xf2_5, xf2_6, xf2_7, xf2_8⟩)
        refine wpAnyH_take (i := 8) (v := ?_) rfl (by kernel_rfl) (by kernel_rfl) (by kernel_rfl) (fun _ _ _ h => h) (Or.inl ⟨by rfl, ?_⟩) (by assumption) ?_
        rotate_left
        · intro w hSw; (try dsimp only at hSw); go_simp; (try with_reducible rfl)
        (try go_simp)
        refine wpAnyH_take (i := 9) (v := ?_) rfl (by kernel_rfl) (by kernel_rfl) (by kernel_rfl) (fun _ _ _ h => h) (Or.inl ⟨by rfl, ?_⟩) (by assumption) ?_
        rotate_left
        · intro w hSw; (try dsimp only at hSw); go_simp; (try with_reducible rfl)
        (try go_simp)
        refine wpAnyH_take (i := 10) (v := ?_) rfl (by kernel_rfl) (by kernel_rfl) (by kernel_rfl) (fun _ _ _ h => h) (Or.inl ⟨by rfl, ?_⟩) (by assumption) ?_
        rotate_left
        · intro w hSw; (try dsimp only at hSw); go_simp; (try with_reducible rfl)
        (try go_simp)
        refine wpAnyH_ready (rs := [12]) (by kernel_rfl) (by simp) ?_
        refine AllReadyH.cons rfl (fun Kc hKc => ?_) AllReadyH.nil
        go_simp
        refine hKc.out _ _ ?_ (fun hHeld => ?_) <;> clear hKc Kc
        · (with_reducible exact ⟨grown_cell (b := w110.heap.size) (grown_setCell (grown_setCell (grown_setCell (grown_refl _ _) _ _) _ _) _ _) hn0_0_0 xf2_0, grown_cell (b := w110.heap.size) (grown_setCell (grown_setCell (grown_setCell (grown_refl _ _) _ _) _ _) _ _) hn0_0_0 xf2_1, grown_cell (b := w110.heap.size) (grown_setCell (grown_setCell (grown_setCell (grown_refl _ _) _ _) _ _) _ _) hn0_0_0 xf2_2, grown_cell (b := w110.heap.size) (grown_setCell (grown_setCell (grown_setCell (grown_refl _ _) _ _) _ _) _ _) hn0_0_1 xf2_3, grown_cell (b := w110.heap.size) (grown_setCell (grown_setCell (grown_setCell (grown_refl _ _) _ _) _ _) _ _) hn0_0_1 xf2_4, grown_cell (b := w110.heap.size) (grown_setCell (grown_setCell (grown_setCell (grown_refl _ _) _ _) _ _) _ _) hn0_0_1 xf2_5, grown_cell (b := w110.heap.size) (grown_setCell (grown_setCell (grown_setCell (grown_refl _ _) _ _) _ _) _ _) hn0_0_2 xf2_6, grown_cell (b := w110.heap.size) (grown_setCell (grown_setCell (grown_setCell (grown_refl _ _) _ _) _ _) _ _) hn0_0_2 xf2_7, grown_cell (b := w110.heap.size) (grown_setCell (grown_setCell (grown_setCell (grown_refl _ _) _ _) _ _) _ _) hn0_0_2 xf2_8⟩)
        refine wpAnyH_ready (rs := [13]) (by kernel_rfl) (by simp) ?_
        refine AllReadyH.cons rfl (fun Kc hKc => ?_) AllReadyH.nil
        go_simp
        refine hKc.out _ _ ?_ (fun hHeld => ?_) <;> clear hKc Kc
        · (with_reducible exact ⟨grown_cell (b := w110.heap.size) (grown_setCell (grown_setCell (grown_setCell (grown_refl _ _) _ _) _ _) _ _) hn0_0_0 xf2_0, grown_cell (b := w110.heap.size) (grown_setCell (grown_setCell (grown_setCell (grown_refl _ _) _ _) _ _) _ _) hn0_0_0 xf2_1, grown_cell (b := w110.heap.size) (grown_setCell (grown_setCell (grown_setCell (grown_refl _ _) _ _) _ _) _ _) hn0_0_0 xf2_2, grown_cell (b := w110.heap.size) (grown_setCell (grown_setCell (grown_setCell (grown_refl _ _) _ _) _ _) _ _) hn0_0_1 xf2_3, grown_cell (b := w110.heap.size) (grown_setCell (grown_setCell (grown_setCell (grown_refl _ _) _ _) _ _) _ _) hn0_0_1 xf2_4, grown_cell (b := w110.heap.size) (grown_setCell (grown_setCell (grown_setCell (grown_refl _ _) _ _) _ _) _ _) hn0_0_1 xf2_5, grown_cell (b := w110.heap.size) (grown_setCell (grown_setCell (grown_setCell (grown_refl _ _) _ _) _ _) _ _) hn0_0_2 xf2_6, grown_cell (b := w110.heap.size) (grown_setCell (grown_setCell (grown_setCell (grown_refl _ _) _ _) _ _) _ _) hn0_0_2 xf2_7, grown_cell (b := w110.heap.size) (grown_setCell (grown_setCell (grown_setCell (grown_refl _ _) _ _) _ _) _ _) hn0_0_2 xf2_8⟩)
        refine wpAnyH_done (by kernel_rfl) ?_ _
        go_wp2_with fail
        go_meet
        exact ⟨w110.heap.size, fp1, fn1, fc1, fp2, fn2, fc2, fp3, fn3, fc3, rfl, rfl, (((Y2.set 0 (.slice fp1 fn1 fc1)).set 1 (.slice fp2 fn2 fc2)).set 2 (.slice fp3 fn3 fc3)), (((Ef2.setAt (Nat.le_refl _) _ _).setAt (Nat.le_refl _) _ _).setAt (Nat.le_refl _) _ _), (((o5m.setBelow (p := ⟨w110.heap.size, 0, none⟩) (Nat.lt_succ_self _) _).setBelow (p := ⟨w110.heap.size, 1, none⟩) (Nat.lt_succ_self _) _).setBelow (p := ⟨w110.heap.size, 2, none⟩) (Nat.lt_succ_self _) _).mono (by omega)⟩
    obtain ⟨w111, rfl⟩ : ∃ x, x = wc := ⟨wc, rfl⟩
    obtain ⟨bu111, fp1, fn1, fc1, fp2, fn2, fc2, fp3, fn3, fc3, rfl, rfl, Bf111, h111, of⟩ := hcut
    clear ir0_110 ir1_110 ir2_110 lr_110 it0_110 it1_110 it2_110 lt_110 ia0_110 ia1_110 ia2_110 la_110 ib0_110 ib1_110 ib2_110 lb_110 ie0_110 ie1_110 ie2_110 le_110
    have Br111 := (Br110.ext h111)
    clear Br110
    have ir0_111 := Br111.cell (j := 0) rfl
    have ir1_111 := Br111.cell (j := 1) rfl
    have ir2_111 := Br111.cell (j := 2) rfl
    have lr_111 := Br111.lt
    have Bt111 := (Bt110.ext h111)
    clear Bt110
    have it0_111 := Bt111.cell (j := 0) rfl
    have it1_111 := Bt111.cell (j := 1) rfl
    have it2_111 := Bt111.cell (j := 2) rfl
    have lt_111 := Bt111.lt
    have Ba111 := (Ba110.ext h111)
    clear Ba110
    have ia0_111 := Ba111.cell (j := 0) rfl
    have ia1_111 := Ba111.cell (j := 1) rfl
    have ia2_111 := Ba111.cell (j := 2) rfl
    have la_111 := Ba111.lt
    have Bb111 := (Bb110.ext h111)
    clear Bb110
    have ib0_111 := Bb111.cell (j := 0) rfl
    have ib1_111 := Bb111.cell (j := 1) rfl
    have ib2_111 := Bb111.cell (j := 2) rfl
    have lb_111 := Bb111.lt
    have Be111 := (Be110.ext h111)
    clear Be110
    have ie0_111 := Be111.cell (j := 0) rfl
    have ie1_111 := Be111.cell (j := 1) rfl
    have ie2_111 := Be111.cell (j := 2) rfl
    have le_111 := Be111.lt
    have Bf111 := Bf111
    have if0_111 := Bf111.cell (j := 0) rfl
    have if1_111 := Bf111.cell (j := 1) rfl
    have if2_111 := Bf111.cell (j := 2) rfl
    have lf_111 := Bf111.lt
    go_wp2_with fail
    have TF := Lib.hid (contr_isT HR.out Tt.out Te.out ((x :: L) ++ [60, 70]))
    rw [HDG.out.1] at TF
    refine (diagonalTensor_any HR.out TF.out 70 60 (by simp) (by simp) (by decide) (by rw [HDX.out 70 (by simp), HDX.out 60 (by simp)]) _ _ of.tens).mono ?_; rintro e112 w112 ⟨vg, rfl, og, h112⟩
    have TG := Lib.hid (cutXs_isT HR.out TF.out 60 (fun τ => τ 70))
    rw [HDG.out.2.1] at og TG
    obtain ⟨gp1, gn1, gc1, gp2, gn2, gc2, gp3, gn3, gc3, rfl⟩ := og.shape
    clear ir0_111 ir1_111 ir2_111 lr_111 it0_111 it1_111 it2_111 lt_111 ia0_111 ia1_111 ia2_111 la_111 ib0_111 ib1_111 ib2_111 lb_111 ie0_111 ie1_111 ie2_111 le_111 if0_111 if1_111 if2_111 lf_111
    have Br112 := (Br111.ext h112)
    clear Br111
    have ir0_112 := Br112.cell (j := 0) rfl
    have ir1_112 := Br112.cell (j := 1) rfl
    have ir2_112 := Br112.cell (j := 2) rfl
    have lr_112 := Br112.lt
    have Bt112 := (Bt111.ext h112)
    clear Bt111
    have it0_112 := Bt112.cell (j := 0) rfl
    have it1_112 := Bt112.cell (j := 1) rfl
    have it2_112 := Bt112.cell (j := 2) rfl
    have lt_112 := Bt112.lt
    have Ba112 := (Ba111.ext h112)
    clear Ba111
    have ia0_112 := Ba112.cell (j := 0) rfl
    have ia1_112 := Ba112.cell (j := 1) rfl
    have ia2_112 := Ba112.cell (j := 2) rfl
    have la_112 := Ba112.lt
    have Bb112 := (Bb111.ext h112)
    clear Bb111
    have ib0_112 := Bb112.cell (j := 0) rfl
    have ib1_112 := Bb112.cell (j := 1) rfl
    have ib2_112 := Bb112.cell (j := 2) rfl
    have lb_112 := Bb112.lt
    have Bf112 := (Bf111.ext h112)
    clear Bf111
    have if0_112 := Bf112.cell (j := 0) rfl
    have if1_112 := Bf112.cell (j := 1) rfl
    have if2_112 := Bf112.cell (j := 2) rfl
    have lf_112 := Bf112.lt
    go_wp2_with fail
    generalize hG113 : w112.alloc (.cells #[.slice gp1 gn1 gc1, .slice gp2 gn2 gc2, .slice gp3 gn3 gc3] 31) = w113
    have h113 : Ext w112 w113 := by rw [← hG113]; exact (Ext.refl _).alloc _
    have Bg113 : Blk w113 w112.heap.size 31 [.slice gp1 gn1 gc1, .slice gp2 gn2 gc2, .slice gp3 gn3 gc3] := by rw [← hG113]; exact Blk.new w112 #[.slice gp1 gn1 gc1, .slice gp2 gn2 gc2, .slice gp3 gn3 gc3] 31
    clear hG113
    clear ir0_112 ir1_112 ir2_112 lr_112 it0_112 it1_112 it2_112 lt_112 ia0_112 ia1_112 ia2_112 la_112 ib0_112 ib1_112 ib2_112 lb_112 if0_112 if1_112 if2_112 lf_112
    have Br113 := (Br112.ext h113)
    clear Br112
    have ir0_113 := Br113.cell (j := 0) rfl
    have ir1_113 := Br113.cell (j := 1) rfl
    have ir2_113 := Br113.cell (j := 2) rfl
    have lr_113 := Br113.lt
    have Bt113 := (Bt112.ext h113)
    clear Bt112
    have it0_113 := Bt113.cell (j := 0) rfl
    have it1_113 := Bt113.cell (j := 1) rfl
    have it2_113 := Bt113.cell (j := 2) rfl
    have lt_113 := Bt113.lt
    have Ba113 := (Ba112.ext h113)
    clear Ba112
    have ia0_113 := Ba113.cell (j := 0) rfl
    have ia1_113 := Ba113.cell (j := 1) rfl
    have ia2_113 := Ba113.cell (j := 2) rfl
    have la_113 := Ba113.lt
    have Bb113 := (Bb112.ext h113)
    clear Bb112
    have ib0_113 := Bb113.cell (j := 0) rfl
    have ib1_113 := Bb113.cell (j := 1) rfl
    have ib2_113 := Bb113.cell (j := 2) rfl
    have lb_113 := Bb113.lt
    have Bf113 := (Bf112.ext h113)
    clear Bf112
    have if0_113 := Bf113.cell (j := 0) rfl
    have if1_113 := Bf113.cell (j := 1) rfl
    have if2_113 := Bf113.cell (j := 2) rfl
    have lf_113 := Bf113.lt
    have Bg113 := Bg113
    have ig0_113 := Bg113.cell (j := 0) rfl
    have ig1_113 := Bg113.cell (j := 1) rfl
    have ig2_113 := Bg113.cell (j := 2) rfl
    have lg_113 := Bg113.lt
    refine (diagonalTensor_any HR.out TG.out x 70 (by simp) (by simp) (by omega) (by rw [HDX.out 70 (by simp)]) _ _ (og.tens.ext h113)).mono ?_; rintro e114 w114 ⟨vh, rfl, oh, h114⟩
    rw [HDG.out.2.2.1, HDG.out.2.2.2] at oh
    obtain ⟨hp1, hn1, hc1, hp2, hn2, hc2, hp3, hn3, hc3, rfl⟩ := oh.shape
    clear ir0_113 ir1_113 ir2_113 lr_113 it0_113 it1_113 it2_113 lt_113 ia0_113 ia1_113 ia2_113 la_113 ib0_113 ib1_113 ib2_113 lb_113 if0_113 if1_113 if2_113 lf_113 ig0_113 ig1_113 ig2_113 lg_113
    have Br114 := (Br113.ext h114)
    clear Br113
    have ir0_114 := Br114.cell (j := 0) rfl
    have ir1_114 := Br114.cell (j := 1) rfl
    have ir2_114 := Br114.cell (j := 2) rfl
    have lr_114 := Br114.lt
    have Bt114 := (Bt113.ext h114)
    clear Bt113
    have it0_114 := Bt114.cell (j := 0) rfl
    have it1_114 := Bt114.cell (j := 1) rfl
    have it2_114 := Bt114.cell (j := 2) rfl
    have lt_114 := Bt114.lt
    have Ba114 := (Ba113.ext h114)
    clear Ba113
    have ia0_114 := Ba114.cell (j := 0) rfl
    have ia1_114 := Ba114.cell (j := 1) rfl
    have ia2_114 := Ba114.cell (j := 2) rfl
    have la_114 := Ba114.lt
    have Bb114 := (Bb113.ext h114)
    clear Bb113
    have ib0_114 := Bb114.cell (j := 0) rfl
    have ib1_114 := Bb114.cell (j := 1) rfl
    have ib2_114 := Bb114.cell (j := 2) rfl
    have lb_114 := Bb114.lt
    have Bf114 := (Bf113.ext h114)
    clear Bf113
    have if0_114 := Bf114.cell (j := 0) rfl
    have if1_114 := Bf114.cell (j := 1) rfl
    have if2_114 := Bf114.cell (j := 2) rfl
    have lf_114 := Bf114.lt
    have Bg114 := (Bg113.ext h114)
    clear Bg113
    have ig0_114 := Bg114.cell (j := 0) rfl
    have ig1_114 := Bg114.cell (j := 1) rfl
    have ig2_114 := Bg114.cell (j := 2) rfl
    have lg_114 := Bg114.lt
    go_wp2_with fail
    generalize hG115 : w114.alloc (.cells #[.slice hp1 hn1 hc1, .slice hp2 hn2 hc2, .slice hp3 hn3 hc3] 31) = w115
    have h115 : Ext w114 w115 := by rw [← hG115]; exact (Ext.refl _).alloc _
    have Bh115 : Blk w115 w114.heap.size 31 [.slice hp1 hn1 hc1, .slice hp2 hn2 hc2, .slice hp3 hn3 hc3] := by rw [← hG115]; exact Blk.new w114 #[.slice hp1 hn1 hc1, .slice hp2 hn2 hc2, .slice hp3 hn3 hc3] 31
    clear hG115
    clear ir0_114 ir1_114 ir2_114 lr_114 it0_114 it1_114 it2_114 lt_114 ia0_114 ia1_114 ia2_114 la_114 ib0_114 ib1_114 ib2_114 lb_114 if0_114 if1_114 if2_114 lf_114 ig0_114 ig1_114 ig2_114 lg_114
    have Br115 := (Br114.ext h115)
    clear Br114
    have ir0_115 := Br115.cell (j := 0) rfl
    have ir1_115 := Br115.cell (j := 1) rfl
    have ir2_115 := Br115.cell (j := 2) rfl
    have lr_115 := Br115.lt
    have Bt115 := (Bt114.ext h115)
    clear Bt114
    have it0_115 := Bt115.cell (j := 0) rfl
    have it1_115 := Bt115.cell (j := 1) rfl
    have it2_115 := Bt115.cell (j := 2) rfl
    have lt_115 := Bt115.lt
    have Ba115 := (Ba114.ext h115)
    clear Ba114
    have ia0_115 := Ba115.cell (j := 0) rfl
    have ia1_115 := Ba115.cell (j := 1) rfl
    have ia2_115 := Ba115.cell (j := 2) rfl
    have la_115 := Ba115.lt
    have Bb115 := (Bb114.ext h115)
    clear Bb114
    have ib0_115 := Bb115.cell (j := 0) rfl
    have ib1_115 := Bb115.cell (j := 1) rfl
    have ib2_115 := Bb115.cell (j := 2) rfl
    have lb_115 := Bb115.lt
    have Bf115 := (Bf114.ext h115)
    clear Bf114
    have if0_115 := Bf115.cell (j := 0) rfl
    have if1_115 := Bf115.cell (j := 1) rfl
    have if2_115 := Bf115.cell (j := 2) rfl
    have lf_115 := Bf115.lt
    have Bg115 := (Bg114.ext h115)
    clear Bg114
    have ig0_115 := Bg115.cell (j := 0) rfl
    have ig1_115 := Bg115.cell (j := 1) rfl
    have ig2_115 := Bg115.cell (j := 2) rfl
    have lg_115 := Bg115.lt
    have Bh115 := Bh115
    have ih0_115 := Bh115.cell (j := 0) rfl
    have ih1_115 := Bh115.cell (j := 1) rfl
    have ih2_115 := Bh115.cell (j := 2) rfl
    have lh_115 := Bh115.lt
    have TA := Lib.hid (contr_isT HR.out Tt.out Td.out (L ++ [50]))
    rw [HRN.out.1] at TA
    refine (sameTensor_yes HR.out TA.out HRN.out.2.1 HRN.out.2.2.1 HRN.out.2.2.2 _ _ _ (oa.tens.ext (h107.trans (h108.trans (h109.trans (h110.trans (h111.trans (h112.trans (h113.trans (h114.trans h115))))))))) (ob.tens.ext (h109.trans (h110.trans (h111.trans (h112.trans (h113.trans (h114.trans h115)))))))).mono ?_; rintro e116 w116 ⟨rfl, h116⟩
    clear ir0_115 ir1_115 ir2_115 lr_115 it0_115 it1_115 it2_115 lt_115 ia0_115 ia1_115 ia2_115 la_115 ib0_115 ib1_115 ib2_115 lb_115 if0_115 if1_115 if2_115 lf_115 ig0_115 ig1_115 ig2_115 lg_115 ih0_115 ih1_115 ih2_115 lh_115
    have Br116 := (Br115.ext h116)
    clear Br115
    have ir0_116 := Br116.cell (j := 0) rfl
    have ir1_116 := Br116.cell (j := 1) rfl
    have ir2_116 := Br116.cell (j := 2) rfl
    have lr_116 := Br116.lt
    have Bt116 := (Bt115.ext h116)
    clear Bt115
    have it0_116 := Bt116.cell (j := 0) rfl
    have it1_116 := Bt116.cell (j := 1) rfl
    have it2_116 := Bt116.cell (j := 2) rfl
    have lt_116 := Bt116.lt
    have Ba116 := (Ba115.ext h116)
    clear Ba115
    have ia0_116 := Ba116.cell (j := 0) rfl
    have ia1_116 := Ba116.cell (j := 1) rfl
    have ia2_116 := Ba116.cell (j := 2) rfl
    have la_116 := Ba116.lt
    have Bb116 := (Bb115.ext h116)
    clear Bb115
    have ib0_116 := Bb116.cell (j := 0) rfl
    have ib1_116 := Bb116.cell (j := 1) rfl
    have ib2_116 := Bb116.cell (j := 2) rfl
    have lb_116 := Bb116.lt
    have Bf116 := (Bf115.ext h116)
    clear Bf115
    have if0_116 := Bf116.cell (j := 0) rfl
    have if1_116 := Bf116.cell (j := 1) rfl
    have if2_116 := Bf116.cell (j := 2) rfl
    have lf_116 := Bf116.lt
    have Bg116 := (Bg115.ext h116)
    clear Bg115
    have ig0_116 := Bg116.cell (j := 0) rfl
    have ig1_116 := Bg116.cell (j := 1) rfl
    have ig2_116 := Bg116.cell (j := 2) rfl
    have lg_116 := Bg116.lt
    have Bh116 := (Bh115.ext h116)
    clear Bh115
    have ih0_116 := Bh116.cell (j := 0) rfl
    have ih1_116 := Bh116.cell (j := 1) rfl
    have ih2_116 := Bh116.cell (j := 2) rfl
    have lh_116 := Bh116.lt
    go_wp2_with fail
    refine (same_same _ _ _ _ _ _ _ _ _ (oh.tens.ext (h115.trans h116)) (ot.tens.ext (h104.trans (h105.trans (h106.trans (h107.trans (h108.trans (h109.trans (h110.trans (h111.trans (h112.trans (h113.trans (h114.trans (h115.trans h116))))))))))))) rfl rfl rfl).mono ?_; rintro e117 w117 ⟨rfl, h117⟩
    clear ir0_116 ir1_116 ir2_116 lr_116 it0_116 it1_116 it2_116 lt_116 ia0_116 ia1_116 ia2_116 la_116 ib0_116 ib1_116 ib2_116 lb_116 if0_116 if1_116 if2_116 lf_116 ig0_116 ig1_116 ig2_116 lg_116 ih0_116 ih1_116 ih2_116 lh_116
    have Br117 := (Br116.ext h117)
    clear Br116
    have ir0_117 := Br117.cell (j := 0) rfl
    have ir1_117 := Br117.cell (j := 1) rfl
    have ir2_117 := Br117.cell (j := 2) rfl
    have lr_117 := Br117.lt
    have Bt117 := (Bt116.ext h117)
    clear Bt116
    have it0_117 := Bt117.cell (j := 0) rfl
    have it1_117 := Bt117.cell (j := 1) rfl
    have it2_117 := Bt117.cell (j := 2) rfl
    have lt_117 := Bt117.lt
    have Ba117 := (Ba116.ext h117)
    clear Ba116
    have ia0_117 := Ba117.cell (j := 0) rfl
    have ia1_117 := Ba117.cell (j := 1) rfl
    have ia2_117 := Ba117.cell (j := 2) rfl
    have la_117 := Ba117.lt
    have Bb117 := (Bb116.ext h117)
    clear Bb116
    have ib0_117 := Bb117.cell (j := 0) rfl
    have ib1_117 := Bb117.cell (j := 1) rfl
    have ib2_117 := Bb117.cell (j := 2) rfl
    have lb_117 := Bb117.lt
    have Bf117 := (Bf116.ext h117)
    clear Bf116
    have if0_117 := Bf117.cell (j := 0) rfl
    have if1_117 := Bf117.cell (j := 1) rfl
    have if2_117 := Bf117.cell (j := 2) rfl
    have lf_117 := Bf117.lt
    have Bg117 := (Bg116.ext h117)
    clear Bg116
    have ig0_117 := Bg117.cell (j := 0) rfl
    have ig1_117 := Bg117.cell (j := 1) rfl
    have ig2_117 := Bg117.cell (j := 2) rfl
    have lg_117 := Bg117.lt
    have Bh117 := (Bh116.ext h117)
    clear Bh116
    have ih0_117 := Bh117.cell (j := 0) rfl
    have ih1_117 := Bh117.cell (j := 1) rfl
    have ih2_117 := Bh117.cell (j := 2) rfl
    have lh_117 := Bh117.lt
    go_wp2
    go_ret
    exact ⟨rfl, (h1.trans (h2.trans (h3.trans (h104.trans (h105.trans (h106.trans (h107.trans (h108.trans (h109.trans (h110.trans (h111.trans (h112.trans (h113.trans (h114.trans (h115.trans (h116.trans h117))))))))))))))))⟩
end Go.Proofs.Ytabeciopggofkaa
