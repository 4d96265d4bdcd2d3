/- MapTensor of the program. -/
import Derived.Test.YtpegckmagiaggaaCBase
import Derived.Test.YtpegckmagiaggaaCPermW
import Derived.Test.YtpegckmagiaggaaCTokW
import Derived.Test.YtpegckmagiaggaaCHomC
import Derived.Test.YtpegckmagiaggaaCG5
import Derived.Test.YtpegckmagiaggaaCTenW
namespace Go.Proofs.Ytpegckmagiaggaa
open Go.RowKit
set_option linter.unusedSimpArgs false
set_option linter.unusedVariables false

theorem take_snocA {α : Type} {l : List α} {j : Nat} {x : α} (h : l[j]? = some x) : l.take (j + 1) = l.take j ++ [x] := by
  obtain ⟨hj, rfl⟩ := List.getElem?_eq_some_iff.1 h
  exact List.take_succ_eq_append_getElem hj
section
variable {fk fp fn tk tp tn hk ha : Int} (H : Keeps fk fp fn tk tp tn hk ha) (hh : homOk fk fp fn tk tp tn hk ha = true)
include hh
set_option maxRecDepth 100000 in
set_option maxHeartbeats 8000000 in
theorem mapTensor_any {dm : Int → Int} {U L : List Int} {xs : List (El fk fp fn)} (ht : IsT fk fp fn dm U L xs) (va : Value) (w : World) (hva : TenS w va L (L.map dm) (flat xs)) :
    Calls Try.prog 36 #[ringV fk fp fn, ringV tk tp tn, homV hk ha, va] w fun e w' => ∃ u, e = .returned (.tuple #[u, .bool true]) ∧ OwnT w' w.heap.size u L (L.map dm) (flat (xs.map (homEl H))) ∧ Ext w w' := by
  obtain ⟨hr, hr2, hraw⟩ := homOk_parts hh
  have hva0 := hva
  obtain ⟨ap1, an1, ac1, ap2, an2, ac2, ap3, an3, ac3, rfl⟩ := hva.shape
  obtain ⟨_, _, _, hvv, haL, haD, haX⟩ := hva.val
  simp at hvv
  obtain ⟨rfl, rfl, rfl⟩ := hvv
  obtain ⟨_, _, hvv, _, _⟩ := haL.val
  simp at hvv
  obtain ⟨rfl, rfl, rfl⟩ := hvv
  obtain ⟨_, _, hvv, _, _⟩ := haD.val
  simp at hvv
  obtain ⟨rfl, rfl, rfl⟩ := hvv
  obtain ⟨_, _, hvv, _, _⟩ := haX.val
  simp at hvv
  obtain ⟨rfl, rfl, rfl⟩ := hvv
  obtain ⟨P, W, hP, hW, hP1, hP2, hW1', hW6, hXl⟩ := (ht.ok hr).nat hr
  have hPW1 : 1 ≤ P * W := Nat.mul_le_mul hP1 hW1'
  have hPW : P * W ≤ 4096 * 6 := Nat.mul_le_mul hP2 hW6
  obtain ⟨bA, oA, cA, hXX, hcA, _, hbA⟩ := haX.open (by omega)
  cases hXX
  have hX9 : (flat xs).length ≤ 1048576 := by omega
  have HT := Lib.hid ht; clear ht
  have HWW := Lib.hid hW
  have HR := Lib.hid hr
  have HR2 := Lib.hid hr2
  have HRAW := Lib.hid hraw
  have HH := Lib.hid hh
  have HBA := Lib.hid hbA
  obtain ⟨V, hV⟩ : ∃ V : Nat, ringWidth tk tn = V := ⟨(ringWidth tk tn).toNat, by have := (ringOk_wide hr2).lo; omega⟩
  have hV6 : V ≤ 6 := by have := (ringOk_wide hr2).hi; omega
  have HV := Lib.hid hV
  have HSl : Hid (xs.length = P) := Lib.hid (by have h1 := flat_length HWW.out xs; rw [hXl] at h1; exact (Nat.eq_of_mul_eq_mul_right (by omega) h1).symm)
  have HPS : Hid (prodL (L.map dm) = (P : Int)) := Lib.hid hP
  have HXL := Lib.hid hXl
  have HYA := Lib.hid (HT.out.yes hr)
  have hw := ringOk_wide hr
  have hrk : L.length ≤ 12 := HT.out.ax.rank
  clear hP hP1 hXl hPW1 hPW hW hV hr2 hraw hbA
  generalize hW1 : (((((w.alloc (.cells #[.int .i64 fk, .int .i64 fp, .int .i64 fn] 24)).alloc (.cells #[.int .i64 tk, .int .i64 tp, .int .i64 tn] 24)).alloc (.cells #[.int .i64 hk, .int .i64 ha] 56)).alloc (.cells #[.slice ap1 L.length ac1, .slice ap2 L.length ac2, .slice (some ⟨bA, oA, none⟩) (flat xs).length ac3] 32)).alloc (.cells #[.slice none 0 0, .slice none 0 0, .slice none 0 0] 32)) = w1
  have h1 : Ext w w1 := by rw [← hW1]; exact (by repeat' (first | (with_reducible exact Ext.refl _) | (with_reducible assumption) | (with_reducible apply Ext.alloc) | (with_reducible apply Ext.drew) | (with_reducible apply Ext.drewN) | (refine Ext.setAt ?_ (by omega) _ _) | (refine Ext.trans ?_ (by assumption))))
  have Bf : Blk w1 (w.heap.size) 24 [.int .i64 fk, .int .i64 fp, .int .i64 fn] := by rw [← hW1]; exact (((((Blk.newB (c := #[_, _, _]) (by simp)).alloc _).alloc _).alloc _).alloc _)
  have Bq : Blk w1 (w.heap.size + 1) 24 [.int .i64 tk, .int .i64 tp, .int .i64 tn] := by rw [← hW1]; exact ((((Blk.newB (c := #[_, _, _]) (by simp)).alloc _).alloc _).alloc _)
  have Bm : Blk w1 (w.heap.size + 2) 56 [.int .i64 hk, .int .i64 ha] := by rw [← hW1]; exact (((Blk.newB (c := #[_, _]) (by simp)).alloc _).alloc _)
  have Ba : Blk w1 (w.heap.size + 3) 32 [.slice ap1 L.length ac1, .slice ap2 L.length ac2, .slice (some ⟨bA, oA, none⟩) (flat xs).length ac3] := by rw [← hW1]; exact ((Blk.newB (c := #[_, _, _]) (by simp)).alloc _)
  have Bz : Blk w1 (w.heap.size + 4) 32 [.slice none 0 0, .slice none 0 0, .slice none 0 0] := by rw [← hW1]; exact (Blk.newB (c := #[_, _, _]) (by simp))
  have HS1 : Hid (w1.heap.size = w.heap.size + 5) := Lib.hid (by rw [← hW1]; simp)
  have HW := Lib.hid hW1; clear hW1
  go_enter Try.func36, Try.ntmps36
  go_wp2_with fail
  rw [HW.out]
  have if_0 := Bf.cell (j := 0) rfl
  have if_1 := Bf.cell (j := 1) rfl
  have if_2 := Bf.cell (j := 2) rfl
  have iq_0 := Bq.cell (j := 0) rfl
  have iq_1 := Bq.cell (j := 1) rfl
  have iq_2 := Bq.cell (j := 2) rfl
  have im_0 := Bm.cell (j := 0) rfl
  have im_1 := Bm.cell (j := 1) rfl
  have ia_0 := Ba.cell (j := 0) rfl
  have ia_1 := Ba.cell (j := 1) rfl
  have ia_2 := Ba.cell (j := 2) rfl
  go_wp2_with fail
  refine (homOk_impl fk fp fn tk tp tn hk ha _).mono ?_; rintro e2 w2 ⟨rfl, h2⟩; rw [HH.out]
  clear if_0 if_1 if_2 iq_0 iq_1 iq_2 im_0 im_1 ia_0 ia_1 ia_2
  have B2f := Bf.ext h2
  have B2q := Bq.ext h2
  have B2m := Bm.ext h2
  have B2a := Ba.ext h2
  have B2z := Bz.ext h2
  have j2f_0 := B2f.cell (j := 0) rfl
  have j2f_1 := B2f.cell (j := 1) rfl
  have j2f_2 := B2f.cell (j := 2) rfl
  have j2q_0 := B2q.cell (j := 0) rfl
  have j2q_1 := B2q.cell (j := 1) rfl
  have j2q_2 := B2q.cell (j := 2) rfl
  have j2m_0 := B2m.cell (j := 0) rfl
  have j2m_1 := B2m.cell (j := 1) rfl
  have j2a_0 := B2a.cell (j := 0) rfl
  have j2a_1 := B2a.cell (j := 1) rfl
  have j2a_2 := B2a.cell (j := 2) rfl
  have l2f := B2f.lt
  have l2q := B2q.lt
  have l2m := B2m.lt
  have l2a := B2a.lt
  go_wp2_with fail
  refine (tensorOk_impl fk fp fn _ L _ _ _ (hva0.ext (h1.trans h2))).mono ?_; rintro e3 w3 ⟨rfl, h3⟩; rw [HYA.out]
  clear j2f_0 j2f_1 j2f_2 j2q_0 j2q_1 j2q_2 j2m_0 j2m_1 j2a_0 j2a_1 j2a_2 l2f l2q l2m l2a
  have B3f := B2f.ext h3
  have B3q := B2q.ext h3
  have B3m := B2m.ext h3
  have B3a := B2a.ext h3
  have B3z := B2z.ext h3
  have j3f_0 := B3f.cell (j := 0) rfl
  have j3f_1 := B3f.cell (j := 1) rfl
  have j3f_2 := B3f.cell (j := 2) rfl
  have j3q_0 := B3q.cell (j := 0) rfl
  have j3q_1 := B3q.cell (j := 1) rfl
  have j3q_2 := B3q.cell (j := 2) rfl
  have j3m_0 := B3m.cell (j := 0) rfl
  have j3m_1 := B3m.cell (j := 1) rfl
  have j3a_0 := B3a.cell (j := 0) rfl
  have j3a_1 := B3a.cell (j := 1) rfl
  have j3a_2 := B3a.cell (j := 2) rfl
  have l3f := B3f.lt
  have l3q := B3q.lt
  have l3m := B3m.lt
  have l3a := B3a.lt
  have E13 : Ext w1 w3 := h2.trans h3
  have HS13 : Hid (w1.heap.size ≤ w3.heap.size) := Lib.hid E13.size
  have D0 : Ext w3 w3.drew := (Ext.refl _).drew
  have hn0_0 : w.heap.size + 1 + 1 + 1 ≠ w3.heap.size := by omega
  go_upto_region 3 with fail
  go_cut [10] from 12 (fun q wx => ∃ bu s1 s2 t1 t2, q = .pointer (some ⟨bu, 0, none⟩) ∧ Blk wx bu 32 [.slice s1 L.length s2, .slice t1 L.length t2, .slice none 0 0] ∧ Ext w3 wx ∧ OwnI wx w3.heap.size (.slice s1 L.length s2) L ∧ OwnI wx w3.heap.size (.slice t1 L.length t2) (L.map dm) ∧ (∀ z, (Value.slice s1 L.length s2).ownBlock = some z → (Value.slice t1 L.length t2).ownBlock ≠ some z ∧ z ≠ bu) ∧ (∀ z, (Value.slice t1 L.length t2).ownBlock = some z → z ≠ bu) ∧ w3.heap.size ≤ bu)
  case first =>
    refine wp_region_held_drew (S := fun w' => w'.cell? ⟨w.heap.size + 1 + 1 + 1, 0, none⟩ = some (.slice ap1 L.length ac1) ∧ w'.cell? ⟨w.heap.size + 1 + 1 + 1, 1, none⟩ = some (.slice ap2 L.length ac2) ∧ w'.cell? ⟨w.heap.size + 1 + 1 + 1, 2, none⟩ = some (.slice (some ⟨bA, oA, none⟩) (flat xs).length ac3)) (by kernel_rfl) ?_ (fun hHeld => ?_)
    · (first | (with_reducible exact ⟨(Ext.refl w3).drew.cell j3a_0, (Ext.refl w3).drew.cell j3a_1, (Ext.refl w3).drew.cell j3a_2⟩) | (with_reducible exact ⟨(((Ext.refl w3).alloc _).drew).cell j3a_0, (((Ext.refl w3).alloc _).drew).cell j3a_1, (((Ext.refl w3).alloc _).drew).cell j3a_2⟩) | (with_reducible exact ⟨xs1_0, xs1_1, xs1_2⟩) | (with_reducible exact ⟨(Es1.alloc _).cell j3a_0, (Es1.alloc _).cell j3a_1, (Es1.alloc _).cell j3a_2⟩) | (with_reducible exact ⟨xs2_0, xs2_1, xs2_2⟩) | (with_reducible exact ⟨(Es2.alloc _).cell j3a_0, (Es2.alloc _).cell j3a_1, (Es2.alloc _).cell j3a_2⟩) | (with_reducible exact ⟨grown_cell (b := w3.heap.size) (grown_setCell (grown_setCell (grown_setCell (grown_refl _ _) _ _) _ _) _ _) hn0_0 xs2_0, grown_cell (b := w3.heap.size) (grown_setCell (grown_setCell (grown_setCell (grown_refl _ _) _ _) _ _) _ _) hn0_0 xs2_1, grown_cell (b := w3.heap.size) (grown_setCell (grown_setCell (grown_setCell (grown_refl _ _) _ _) _ _) _ _) hn0_0 xs2_2⟩) | (with_reducible exact ⟨grown_cell (b := ws1.heap.size) (grown_setCell (grown_setCell (grown_setCell (grown_refl _ _) _ _) _ _) _ _) hn1_0 xs2_0, grown_cell (b := ws1.heap.size) (grown_setCell (grown_setCell (grown_setCell (grown_refl _ _) _ _) _ _) _ _) hn1_0 xs2_1, grown_cell (b := ws1.heap.size) (grown_setCell (grown_setCell (grown_setCell (grown_refl _ _) _ _) _ _) _ _) hn1_0 xs2_2⟩))
    refine wpAnyH_take (i := 0) (v := ?_) rfl (by kernel_rfl) (by kernel_rfl) (by kernel_rfl) (fun _ _ _ h => h) (Or.inl ⟨by rfl, ?_⟩) (by assumption) ?_
    rotate_left
    · intro w hSw; (try dsimp only at hSw); go_simp; (try with_reducible rfl)
    (try go_simp)
    refine wpAnyH_take (i := 1) (v := ?_) rfl (by kernel_rfl) (by kernel_rfl) (by kernel_rfl) (fun _ _ _ h => h) (Or.inl ⟨by rfl, ?_⟩) (by assumption) ?_
    rotate_left
    · intro w hSw; (try dsimp only at hSw); go_simp; (try with_reducible rfl)
    (try go_simp)
    refine wpAnyH_take (i := 3) (v := ?_) rfl (by kernel_rfl) (by kernel_rfl) (by kernel_rfl) (fun _ _ _ h => h) (Or.inl ⟨by rfl, ?_⟩) (by assumption) ?_
    rotate_left
    · intro w hSw; (try dsimp only at hSw); go_simp; (try with_reducible rfl)
    (try go_simp)
    refine wpAnyH_take (i := 4) (v := ?_) rfl (by kernel_rfl) (by kernel_rfl) (by kernel_rfl) (fun _ _ _ h => h) (Or.inl ⟨by rfl, ?_⟩) (by assumption) ?_
    rotate_left
    · intro w hSw; (try dsimp only at hSw); go_simp; (try with_reducible rfl)
    (try go_simp)
    refine wpAnyH_ready (rs := [2, 7]) (by kernel_rfl) (by simp) ?_
    refine AllReadyH.cons rfl (fun Kc hKc => ?_) ?_
    · skip
      go_simp; go_at_call 100
      (with_reducible refine (copyInts_any _ L w3.drew ((haL.ext (h1.trans E13)).ext D0) (by omega)).mono ?_); rintro es1 ws1 ⟨vs, rfl, os, hs1⟩; have Es1 : Ext w3 ws1 := D0.trans hs1; have xs1_0 := Es1.cell j3a_0; have xs1_1 := Es1.cell j3a_1; have xs1_2 := Es1.cell j3a_2; have hEs1s := Es1.size; have Ss1 : w3.heap.size ≤ ws1.heap.size := (by have := hs1.size; first | omega | (simp at this; omega)); obtain ⟨s1, s2, rfl⟩ : ∃ a c, vs = .slice a L.length c := (by obtain ⟨a, c, rfl, _, _⟩ := os.ints.val; exact ⟨a, c, by simp⟩); have Nos : Hid (∀ q, (.slice s1 L.length s2 : Value).ownBlock = some q → w3.heap.size ≤ q ∧ q < ws1.heap.size) := Lib.hid (fun q hq => by have := os.block_lt hq; first | exact this | (simp at this; omega)); have bos := os.mono (B' := w3.heap.size) (D0).size; have hn1_0 : w.heap.size + 1 + 1 + 1 ≠ ws1.heap.size := (by omega)
      (try go_simp)
      refine hKc.out _ _ ?_ (fun hHeld => ?_) <;> clear hKc Kc
      · (first | (with_reducible exact ⟨(Ext.refl w3).drew.cell j3a_0, (Ext.refl w3).drew.cell j3a_1, (Ext.refl w3).drew.cell j3a_2⟩) | (with_reducible exact ⟨(((Ext.refl w3).alloc _).drew).cell j3a_0, (((Ext.refl w3).alloc _).drew).cell j3a_1, (((Ext.refl w3).alloc _).drew).cell j3a_2⟩) | (with_reducible exact ⟨xs1_0, xs1_1, xs1_2⟩) | (with_reducible exact ⟨(Es1.alloc _).cell j3a_0, (Es1.alloc _).cell j3a_1, (Es1.alloc _).cell j3a_2⟩) | (with_reducible exact ⟨xs2_0, xs2_1, xs2_2⟩) | (with_reducible exact ⟨(Es2.alloc _).cell j3a_0, (Es2.alloc _).cell j3a_1, (Es2.alloc _).cell j3a_2⟩) | (with_reducible exact ⟨grown_cell (b := w3.heap.size) (grown_setCell (grown_setCell (grown_setCell (grown_refl _ _) _ _) _ _) _ _) hn0_0 xs2_0, grown_cell (b := w3.heap.size) (grown_setCell (grown_setCell (grown_setCell (grown_refl _ _) _ _) _ _) _ _) hn0_0 xs2_1, grown_cell (b := w3.heap.size) (grown_setCell (grown_setCell (grown_setCell (grown_refl _ _) _ _) _ _) _ _) hn0_0 xs2_2⟩) | (with_reducible exact ⟨grown_cell (b := ws1.heap.size) (grown_setCell (grown_setCell (grown_setCell (grown_refl _ _) _ _) _ _) _ _) hn1_0 xs2_0, grown_cell (b := ws1.heap.size) (grown_setCell (grown_setCell (grown_setCell (grown_refl _ _) _ _) _ _) _ _) hn1_0 xs2_1, grown_cell (b := ws1.heap.size) (grown_setCell (grown_setCell (grown_setCell (grown_refl _ _) _ _) _ _) _ _) hn1_0 xs2_2⟩))
      refine wpAnyH_ready (rs := [5, 7]) (by kernel_rfl) (by simp) ?_
      refine AllReadyH.cons rfl (fun Kc hKc => ?_) ?_
      · skip
        go_simp; go_at_call 100
        (with_reducible refine (copyInts_any _ (L.map dm) ws1 ((haD.ext (h1.trans E13)).ext Es1) (by simp; omega)).mono ?_); rintro es2 ws2 ⟨vt, rfl, ot, hs2⟩; have Es2 : Ext w3 ws2 := Es1.trans hs2; have xs2_0 := Es2.cell j3a_0; have xs2_1 := Es2.cell j3a_1; have xs2_2 := Es2.cell j3a_2; have hEs2s := Es2.size; have Ss2 : ws1.heap.size ≤ ws2.heap.size := (by have := hs2.size; first | omega | (simp at this; omega)); obtain ⟨t1, t2, rfl⟩ : ∃ a c, vt = .slice a L.length c := (by obtain ⟨a, c, rfl, _, _⟩ := ot.ints.val; exact ⟨a, c, by simp⟩); have Not : Hid (∀ q, (.slice t1 L.length t2 : Value).ownBlock = some q → ws1.heap.size ≤ q ∧ q < ws2.heap.size) := Lib.hid (fun q hq => by have := ot.block_lt hq; first | exact this | (simp at this; omega)); have bot := ot.mono (B' := w3.heap.size) (Es1).size; have hn2_0 : w.heap.size + 1 + 1 + 1 ≠ ws2.heap.size := (by omega)
        (try go_simp)
        refine hKc.out _ _ ?_ (fun hHeld => ?_) <;> clear hKc Kc
        · (first | (with_reducible exact ⟨(Ext.refl w3).drew.cell j3a_0, (Ext.refl w3).drew.cell j3a_1, (Ext.refl w3).drew.cell j3a_2⟩) | (with_reducible exact ⟨(((Ext.refl w3).alloc _).drew).cell j3a_0, (((Ext.refl w3).alloc _).drew).cell j3a_1, (((Ext.refl w3).alloc _).drew).cell j3a_2⟩) | (with_reducible exact ⟨xs1_0, xs1_1, xs1_2⟩) | (with_reducible exact ⟨(Es1.alloc _).cell j3a_0, (Es1.alloc _).cell j3a_1, (Es1.alloc _).cell j3a_2⟩) | (with_reducible exact ⟨xs2_0, xs2_1, xs2_2⟩) | (with_reducible exact ⟨(Es2.alloc _).cell j3a_0, (Es2.alloc _).cell j3a_1, (Es2.alloc _).cell j3a_2⟩) | (with_reducible exact ⟨grown_cell (b := w3.heap.size) (grown_setCell (grown_setCell (grown_setCell (grown_refl _ _) _ _) _ _) _ _) hn0_0 xs2_0, grown_cell (b := w3.heap.size) (grown_setCell (grown_setCell (grown_setCell (grown_refl _ _) _ _) _ _) _ _) hn0_0 xs2_1, grown_cell (b := w3.heap.size) (grown_setCell (grown_setCell (grown_setCell (grown_refl _ _) _ _) _ _) _ _) hn0_0 xs2_2⟩) | (with_reducible exact ⟨grown_cell (b := ws1.heap.size) (grown_setCell (grown_setCell (grown_setCell (grown_refl _ _) _ _) _ _) _ _) hn1_0 xs2_0, grown_cell (b := ws1.heap.size) (grown_setCell (grown_setCell (grown_setCell (grown_refl _ _) _ _) _ _) _ _) hn1_0 xs2_1, grown_cell (b := ws1.heap.size) (grown_setCell (grown_setCell (grown_setCell (grown_refl _ _) _ _) _ _) _ _) hn1_0 xs2_2⟩))
        refine wpAnyH_take (i := 6) (v := ?_) rfl (by kernel_rfl) (by kernel_rfl) (by kernel_rfl) (fun _ _ _ h => h) (Or.inl ⟨by rfl, ?_⟩) (by assumption) ?_
        rotate_left
        · intro w hSw; (try dsimp only at hSw); go_simp; (try with_reducible rfl)
        (try go_simp)
        refine wpAnyH_ready (rs := [7]) (by kernel_rfl) (by simp) ?_
        refine AllReadyH.cons rfl (fun Kc hKc => ?_) AllReadyH.nil
        go_simp
        refine hKc.out _ _ ?_ (fun hHeld => ?_) <;> clear hKc Kc
        · (first | (with_reducible exact ⟨(Ext.refl w3).drew.cell j3a_0, (Ext.refl w3).drew.cell j3a_1, (Ext.refl w3).drew.cell j3a_2⟩) | (with_reducible exact ⟨(((Ext.refl w3).alloc _).drew).cell j3a_0, (((Ext.refl w3).alloc _).drew).cell j3a_1, (((Ext.refl w3).alloc _).drew).cell j3a_2⟩) | (with_reducible exact ⟨xs1_0, xs1_1, xs1_2⟩) | (with_reducible exact ⟨(Es1.alloc _).cell j3a_0, (Es1.alloc _).cell j3a_1, (Es1.alloc _).cell j3a_2⟩) | (with_reducible exact ⟨xs2_0, xs2_1, xs2_2⟩) | (with_reducible exact ⟨(Es2.alloc _).cell j3a_0, (Es2.alloc _).cell j3a_1, (Es2.alloc _).cell j3a_2⟩) | (with_reducible exact ⟨grown_cell (b := w3.heap.size) (grown_setCell (grown_setCell (grown_setCell (grown_refl _ _) _ _) _ _) _ _) hn0_0 xs2_0, grown_cell (b := w3.heap.size) (grown_setCell (grown_setCell (grown_setCell (grown_refl _ _) _ _) _ _) _ _) hn0_0 xs2_1, grown_cell (b := w3.heap.size) (grown_setCell (grown_setCell (grown_setCell (grown_refl _ _) _ _) _ _) _ _) hn0_0 xs2_2⟩) | (with_reducible exact ⟨grown_cell (b := ws1.heap.size) (grown_setCell (grown_setCell (grown_setCell (grown_refl _ _) _ _) _ _) _ _) hn1_0 xs2_0, grown_cell (b := ws1.heap.size) (grown_setCell (grown_setCell (grown_setCell (grown_refl _ _) _ _) _ _) _ _) hn1_0 xs2_1, grown_cell (b := ws1.heap.size) (grown_setCell (grown_setCell (grown_setCell (grown_refl _ _) _ _) _ _) _ _) hn1_0 xs2_2⟩))
        refine wpAnyH_ready (rs := [8]) (by kernel_rfl) (by simp) ?_
        refine AllReadyH.cons rfl (fun Kc hKc => ?_) AllReadyH.nil
        go_simp
        refine hKc.out _ _ ?_ (fun hHeld => ?_) <;> clear hKc Kc
        · (first | (with_reducible exact ⟨(Ext.refl w3).drew.cell j3a_0, (Ext.refl w3).drew.cell j3a_1, (Ext.refl w3).drew.cell j3a_2⟩) | (with_reducible exact ⟨(((Ext.refl w3).alloc _).drew).cell j3a_0, (((Ext.refl w3).alloc _).drew).cell j3a_1, (((Ext.refl w3).alloc _).drew).cell j3a_2⟩) | (with_reducible exact ⟨xs1_0, xs1_1, xs1_2⟩) | (with_reducible exact ⟨(Es1.alloc _).cell j3a_0, (Es1.alloc _).cell j3a_1, (Es1.alloc _).cell j3a_2⟩) | (with_reducible exact ⟨xs2_0, xs2_1, xs2_2⟩) | (with_reducible exact ⟨(Es2.alloc _).cell j3a_0, (Es2.alloc _).cell j3a_1, (Es2.alloc _).cell j3a_2⟩) | (with_reducible exact ⟨grown_cell (b := w3.heap.size) (grown_setCell (grown_setCell (grown_setCell (grown_refl _ _) _ _) _ _) _ _) hn0_0 xs2_0, grown_cell (b := w3.heap.size) (grown_setCell (grown_setCell (grown_setCell (grown_refl _ _) _ _) _ _) _ _) hn0_0 xs2_1, grown_cell (b := w3.heap.size) (grown_setCell (grown_setCell (grown_setCell (grown_refl _ _) _ _) _ _) _ _) hn0_0 xs2_2⟩) | (with_reducible exact ⟨grown_cell (b := ws1.heap.size) (grown_setCell (grown_setCell (grown_setCell (grown_refl _ _) _ _) _ _) _ _) hn1_0 xs2_0, grown_cell (b := ws1.heap.size) (grown_setCell (grown_setCell (grown_setCell (grown_refl _ _) _ _) _ _) _ _) hn1_0 xs2_1, grown_cell (b := ws1.heap.size) (grown_setCell (grown_setCell (grown_setCell (grown_refl _ _) _ _) _ _) _ _) hn1_0 xs2_2⟩))
        refine wpAnyH_done (by kernel_rfl) ?_ _
        go_wp2_with fail
        go_meet
        exact ⟨ws2.heap.size, s1, s2, t1, t2, rfl, Blk.new ws2 #[.slice s1 L.length s2, .slice t1 L.length t2, .slice none 0 0] _, Es2.alloc _, ((bos.ext hs2).ext ((Ext.refl _).alloc _)), (bot.ext ((Ext.refl _).alloc _)), (fun z hz => ⟨fun e => by have := Nos.out z hz; have := Not.out z e; omega, by have := Nos.out z hz; omega⟩), (fun z hz => by have := Not.out z hz; omega), (by omega)⟩
      refine AllReadyH.cons rfl (fun Kc hKc => ?_) AllReadyH.nil
      go_simp
      refine hKc.out _ _ ?_ (fun hHeld => ?_) <;> clear hKc Kc
      · (first | (with_reducible exact ⟨(Ext.refl w3).drew.cell j3a_0, (Ext.refl w3).drew.cell j3a_1, (Ext.refl w3).drew.cell j3a_2⟩) | (with_reducible exact ⟨(((Ext.refl w3).alloc _).drew).cell j3a_0, (((Ext.refl w3).alloc _).drew).cell j3a_1, (((Ext.refl w3).alloc _).drew).cell j3a_2⟩) | (with_reducible exact ⟨xs1_0, xs1_1, xs1_2⟩) | (with_reducible exact ⟨(Es1.alloc _).cell j3a_0, (Es1.alloc _).cell j3a_1, (Es1.alloc _).cell j3a_2⟩) | (with_reducible exact ⟨xs2_0, xs2_1, xs2_2⟩) | (with_reducible exact ⟨(Es2.alloc _).cell j3a_0, (Es2.alloc _).cell j3a_1, (Es2.alloc _).cell j3a_2⟩) | (with_reducible exact ⟨grown_cell (b := w3.heap.size) (grown_setCell (grown_setCell (grown_setCell (grown_refl _ _) _ _) _ _) _ _) hn0_0 xs2_0, grown_cell (b := w3.heap.size) (grown_setCell (grown_setCell (grown_setCell (grown_refl _ _) _ _) _ _) _ _) hn0_0 xs2_1, grown_cell (b := w3.heap.size) (grown_setCell (grown_setCell (grown_setCell (grown_refl _ _) _ _) _ _) _ _) hn0_0 xs2_2⟩) | (with_reducible exact ⟨grown_cell (b := ws1.heap.size) (grown_setCell (grown_setCell (grown_setCell (grown_refl _ _) _ _) _ _) _ _) hn1_0 xs2_0, grown_cell (b := ws1.heap.size) (grown_setCell (grown_setCell (grown_setCell (grown_refl _ _) _ _) _ _) _ _) hn1_0 xs2_1, grown_cell (b := ws1.heap.size) (grown_setCell (grown_setCell (grown_setCell (grown_refl _ _) _ _) _ _) _ _) hn1_0 xs2_2⟩))
      refine wpAnyH_ready (rs := [5]) (by kernel_rfl) (by simp) ?_
      refine AllReadyH.cons rfl (fun Kc hKc => ?_) AllReadyH.nil
      go_simp; go_at_call 100
      (with_reducible refine (copyInts_any _ (L.map dm) (ws1.alloc (.cells #[.slice none 0 0, .slice none 0 0, .slice none 0 0] 32)) ((haD.ext (h1.trans E13)).ext (Es1.alloc _)) (by simp; omega)).mono ?_); rintro es2 ws2 ⟨vt, rfl, ot, hs2⟩; have Es2 : Ext w3 ws2 := (Es1.alloc _).trans hs2; have xs2_0 := Es2.cell j3a_0; have xs2_1 := Es2.cell j3a_1; have xs2_2 := Es2.cell j3a_2; have hEs2s := Es2.size; have Ss2 : ws1.heap.size + 1 ≤ ws2.heap.size := (by have := hs2.size; first | omega | (simp at this; omega)); obtain ⟨t1, t2, rfl⟩ : ∃ a c, vt = .slice a L.length c := (by obtain ⟨a, c, rfl, _, _⟩ := ot.ints.val; exact ⟨a, c, by simp⟩); have Not : Hid (∀ q, (.slice t1 L.length t2 : Value).ownBlock = some q → ws1.heap.size + 1 ≤ q ∧ q < ws2.heap.size) := Lib.hid (fun q hq => by have := ot.block_lt hq; first | exact this | (simp at this; omega)); have bot := ot.mono (B' := w3.heap.size) ((Es1.alloc _)).size; have hn2_0 : w.heap.size + 1 + 1 + 1 ≠ ws2.heap.size := (by omega); have Y2 : Blk ws2 ws1.heap.size 32 [.slice none 0 0, .slice none 0 0, .slice none 0 0] := (Blk.new ws1 #[.slice none 0 0, .slice none 0 0, .slice none 0 0] 32).ext hs2; have fb_0 := Y2.free 0; have yb_0 := Y2.cell (j := 0) rfl; have fb_1 := Y2.free 1; have yb_1 := Y2.cell (j := 1) rfl; have fb_2 := Y2.free 2; have yb_2 := Y2.cell (j := 2) rfl; have ylb := Y2.lt
      (try go_simp)
      refine hKc.out _ _ ?_ (fun hHeld => ?_) <;> clear hKc Kc
      · (first | (with_reducible exact ⟨(Ext.refl w3).drew.cell j3a_0, (Ext.refl w3).drew.cell j3a_1, (Ext.refl w3).drew.cell j3a_2⟩) | (with_reducible exact ⟨(((Ext.refl w3).alloc _).drew).cell j3a_0, (((Ext.refl w3).alloc _).drew).cell j3a_1, (((Ext.refl w3).alloc _).drew).cell j3a_2⟩) | (with_reducible exact ⟨xs1_0, xs1_1, xs1_2⟩) | (with_reducible exact ⟨(Es1.alloc _).cell j3a_0, (Es1.alloc _).cell j3a_1, (Es1.alloc _).cell j3a_2⟩) | (with_reducible exact ⟨xs2_0, xs2_1, xs2_2⟩) | (with_reducible exact ⟨(Es2.alloc _).cell j3a_0, (Es2.alloc _).cell j3a_1, (Es2.alloc _).cell j3a_2⟩) | (with_reducible exact ⟨grown_cell (b := w3.heap.size) (grown_setCell (grown_setCell (grown_setCell (grown_refl _ _) _ _) _ _) _ _) hn0_0 xs2_0, grown_cell (b := w3.heap.size) (grown_setCell (grown_setCell (grown_setCell (grown_refl _ _) _ _) _ _) _ _) hn0_0 xs2_1, grown_cell (b := w3.heap.size) (grown_setCell (grown_setCell (grown_setCell (grown_refl _ _) _ _) _ _) _ _) hn0_0 xs2_2⟩) | (with_reducible exact ⟨grown_cell (b := ws1.heap.size) (grown_setCell (grown_setCell (grown_setCell (grown_refl _ _) _ _) _ _) _ _) hn1_0 xs2_0, grown_cell (b := ws1.heap.size) (grown_setCell (grown_setCell (grown_setCell (grown_refl _ _) _ _) _ _) _ _) hn1_0 xs2_1, grown_cell (b := ws1.heap.size) (grown_setCell (grown_setCell (grown_setCell (grown_refl _ _) _ _) _ _) _ _) hn1_0 xs2_2⟩))
      refine wpAnyH_take (i := 6) (v := ?_) rfl (by kernel_rfl) (by kernel_rfl) (by kernel_rfl) (fun _ _ _ h => h) (Or.inl ⟨by rfl, ?_⟩) (by assumption) ?_
      rotate_left
      · intro w hSw; (try dsimp only at hSw); go_simp; (try with_reducible rfl)
      (try go_simp)
      refine wpAnyH_ready (rs := [8]) (by kernel_rfl) (by simp) ?_
      refine AllReadyH.cons rfl (fun Kc hKc => ?_) AllReadyH.nil
      go_simp
      refine hKc.out _ _ ?_ (fun hHeld => ?_) <;> clear hKc Kc
      · (first | (with_reducible exact ⟨(Ext.refl w3).drew.cell j3a_0, (Ext.refl w3).drew.cell j3a_1, (Ext.refl w3).drew.cell j3a_2⟩) | (with_reducible exact ⟨(((Ext.refl w3).alloc _).drew).cell j3a_0, (((Ext.refl w3).alloc _).drew).cell j3a_1, (((Ext.refl w3).alloc _).drew).cell j3a_2⟩) | (with_reducible exact ⟨xs1_0, xs1_1, xs1_2⟩) | (with_reducible exact ⟨(Es1.alloc _).cell j3a_0, (Es1.alloc _).cell j3a_1, (Es1.alloc _).cell j3a_2⟩) | (with_reducible exact ⟨xs2_0, xs2_1, xs2_2⟩) | (with_reducible exact ⟨(Es2.alloc _).cell j3a_0, (Es2.alloc _).cell j3a_1, (Es2.alloc _).cell j3a_2⟩) | (with_reducible exact ⟨grown_cell (b := w3.heap.size) (grown_setCell (grown_setCell (grown_setCell (grown_refl _ _) _ _) _ _) _ _) hn0_0 xs2_0, grown_cell (b := w3.heap.size) (grown_setCell (grown_setCell (grown_setCell (grown_refl _ _) _ _) _ _) _ _) hn0_0 xs2_1, grown_cell (b := w3.heap.size) (grown_setCell (grown_setCell (grown_setCell (grown_refl _ _) _ _) _ _) _ _) hn0_0 xs2_2⟩) | (with_reducible exact ⟨grown_cell (b := ws1.heap.size) (grown_setCell (grown_setCell (grown_setCell (grown_refl _ _) _ _) _ _) _ _) hn1_0 xs2_0, grown_cell (b := ws1.heap.size) (grown_setCell (grown_setCell (grown_setCell (grown_refl _ _) _ _) _ _) _ _) hn1_0 xs2_1, grown_cell (b := ws1.heap.size) (grown_setCell (grown_setCell (grown_setCell (grown_refl _ _) _ _) _ _) _ _) hn1_0 xs2_2⟩))
      refine wpAnyH_done (by kernel_rfl) ?_ _
      go_wp2_with fail
      go_meet
      exact ⟨ws1.heap.size, s1, s2, t1, t2, rfl, (((Y2.set 0 (.slice s1 L.length s2)).set 1 (.slice t1 L.length t2)).set 2 (.slice none 0 0)), (((Es2.setAt hEs1s _ _).setAt hEs1s _ _).setAt hEs1s _ _), (((((bos.ext ((Ext.refl _).alloc _)).ext hs2).setOther (p := ⟨ws1.heap.size, 0, none⟩) (fun z hz => by have := Nos.out z hz; simp only []; omega) _).setOther (p := ⟨ws1.heap.size, 1, none⟩) (fun z hz => by have := Nos.out z hz; simp only []; omega) _).setOther (p := ⟨ws1.heap.size, 2, none⟩) (fun z hz => by have := Nos.out z hz; simp only []; omega) _), (((bot.setOther (p := ⟨ws1.heap.size, 0, none⟩) (fun z hz => by have := Not.out z hz; simp only []; omega) _).setOther (p := ⟨ws1.heap.size, 1, none⟩) (fun z hz => by have := Not.out z hz; simp only []; omega) _).setOther (p := ⟨ws1.heap.size, 2, none⟩) (fun z hz => by have := Not.out z hz; simp only []; omega) _), (fun z hz => ⟨fun e => by have := Nos.out z hz; have := Not.out z e; omega, by have := Nos.out z hz; omega⟩), (fun z hz => by have := Not.out z hz; omega), (by omega)⟩
    refine AllReadyH.cons rfl (fun Kc hKc => ?_) AllReadyH.nil
    go_simp
    refine hKc.out _ _ ?_ (fun hHeld => ?_) <;> clear hKc Kc
    · (first | (with_reducible exact ⟨(Ext.refl w3).drew.cell j3a_0, (Ext.refl w3).drew.cell j3a_1, (Ext.refl w3).drew.cell j3a_2⟩) | (with_reducible exact ⟨(((Ext.refl w3).alloc _).drew).cell j3a_0, (((Ext.refl w3).alloc _).drew).cell j3a_1, (((Ext.refl w3).alloc _).drew).cell j3a_2⟩) | (with_reducible exact ⟨xs1_0, xs1_1, xs1_2⟩) | (with_reducible exact ⟨(Es1.alloc _).cell j3a_0, (Es1.alloc _).cell j3a_1, (Es1.alloc _).cell j3a_2⟩) | (with_reducible exact ⟨xs2_0, xs2_1, xs2_2⟩) | (with_reducible exact ⟨(Es2.alloc _).cell j3a_0, (Es2.alloc _).cell j3a_1, (Es2.alloc _).cell j3a_2⟩) | (with_reducible exact ⟨grown_cell (b := w3.heap.size) (grown_setCell (grown_setCell (grown_setCell (grown_refl _ _) _ _) _ _) _ _) hn0_0 xs2_0, grown_cell (b := w3.heap.size) (grown_setCell (grown_setCell (grown_setCell (grown_refl _ _) _ _) _ _) _ _) hn0_0 xs2_1, grown_cell (b := w3.heap.size) (grown_setCell (grown_setCell (grown_setCell (grown_refl _ _) _ _) _ _) _ _) hn0_0 xs2_2⟩) | (with_reducible exact ⟨grown_cell (b := ws1.heap.size) (grown_setCell (grown_setCell (grown_setCell (grown_refl _ _) _ _) _ _) _ _) hn1_0 xs2_0, grown_cell (b := ws1.heap.size) (grown_setCell (grown_setCell (grown_setCell (grown_refl _ _) _ _) _ _) _ _) hn1_0 xs2_1, grown_cell (b := ws1.heap.size) (grown_setCell (grown_setCell (grown_setCell (grown_refl _ _) _ _) _ _) _ _) hn1_0 xs2_2⟩))
    refine wpAnyH_ready (rs := [2]) (by kernel_rfl) (by simp) ?_
    refine AllReadyH.cons rfl (fun Kc hKc => ?_) AllReadyH.nil
    go_simp; go_at_call 100
    (with_reducible refine (copyInts_any _ L (w3.alloc (.cells #[.slice none 0 0, .slice none 0 0, .slice none 0 0] 32)).drew ((haL.ext (h1.trans E13)).ext (((Ext.refl w3).alloc _).drew)) (by omega)).mono ?_); rintro es1 ws1 ⟨vs, rfl, os, hs1⟩; have Es1 : Ext w3 ws1 := (((Ext.refl w3).alloc _).drew).trans hs1; have xs1_0 := Es1.cell j3a_0; have xs1_1 := Es1.cell j3a_1; have xs1_2 := Es1.cell j3a_2; have hEs1s := Es1.size; have Ss1 : w3.heap.size + 1 ≤ ws1.heap.size := (by have := hs1.size; first | omega | (simp at this; omega)); obtain ⟨s1, s2, rfl⟩ : ∃ a c, vs = .slice a L.length c := (by obtain ⟨a, c, rfl, _, _⟩ := os.ints.val; exact ⟨a, c, by simp⟩); have Nos : Hid (∀ q, (.slice s1 L.length s2 : Value).ownBlock = some q → w3.heap.size + 1 ≤ q ∧ q < ws1.heap.size) := Lib.hid (fun q hq => by have := os.block_lt hq; first | exact this | (simp at this; omega)); have bos := os.mono (B' := w3.heap.size) ((((Ext.refl w3).alloc _).drew)).size; have hn1_0 : w.heap.size + 1 + 1 + 1 ≠ ws1.heap.size := (by omega); have Y1 : Blk ws1 w3.heap.size 32 [.slice none 0 0, .slice none 0 0, .slice none 0 0] := ((Blk.new w3 #[.slice none 0 0, .slice none 0 0, .slice none 0 0] 32).ext ((Ext.refl _).drew)).ext hs1
    (try go_simp)
    refine hKc.out _ _ ?_ (fun hHeld => ?_) <;> clear hKc Kc
    · (first | (with_reducible exact ⟨(Ext.refl w3).drew.cell j3a_0, (Ext.refl w3).drew.cell j3a_1, (Ext.refl w3).drew.cell j3a_2⟩) | (with_reducible exact ⟨(((Ext.refl w3).alloc _).drew).cell j3a_0, (((Ext.refl w3).alloc _).drew).cell j3a_1, (((Ext.refl w3).alloc _).drew).cell j3a_2⟩) | (with_reducible exact ⟨xs1_0, xs1_1, xs1_2⟩) | (with_reducible exact ⟨(Es1.alloc _).cell j3a_0, (Es1.alloc _).cell j3a_1, (Es1.alloc _).cell j3a_2⟩) | (with_reducible exact ⟨xs2_0, xs2_1, xs2_2⟩) | (with_reducible exact ⟨(Es2.alloc _).cell j3a_0, (Es2.alloc _).cell j3a_1, (Es2.alloc _).cell j3a_2⟩) | (with_reducible exact ⟨grown_cell (b := w3.heap.size) (grown_setCell (grown_setCell (grown_setCell (grown_refl _ _) _ _) _ _) _ _) hn0_0 xs2_0, grown_cell (b := w3.heap.size) (grown_setCell (grown_setCell (grown_setCell (grown_refl _ _) _ _) _ _) _ _) hn0_0 xs2_1, grown_cell (b := w3.heap.size) (grown_setCell (grown_setCell (grown_setCell (grown_refl _ _) _ _) _ _) _ _) hn0_0 xs2_2⟩) | (with_reducible exact ⟨grown_cell (b := ws1.heap.size) (grown_setCell (grown_setCell (grown_setCell (grown_refl _ _) _ _) _ _) _ _) hn1_0 xs2_0, grown_cell (b := ws1.heap.size) (grown_setCell (grown_setCell (grown_setCell (grown_refl _ _) _ _) _ _) _ _) hn1_0 xs2_1, grown_cell (b := ws1.heap.size) (grown_setCell (grown_setCell (grown_setCell (grown_refl _ _) _ _) _ _) _ _) hn1_0 xs2_2⟩))
    refine wpAnyH_ready (rs := [5]) (by kernel_rfl) (by simp) ?_
    refine AllReadyH.cons rfl (fun Kc hKc => ?_) AllReadyH.nil
    go_simp; go_at_call 100
    (with_reducible refine (copyInts_any _ (L.map dm) ws1 ((haD.ext (h1.trans E13)).ext Es1) (by simp; omega)).mono ?_); rintro es2 ws2 ⟨vt, rfl, ot, hs2⟩; have Es2 : Ext w3 ws2 := Es1.trans hs2; have xs2_0 := Es2.cell j3a_0; have xs2_1 := Es2.cell j3a_1; have xs2_2 := Es2.cell j3a_2; have hEs2s := Es2.size; have Ss2 : ws1.heap.size ≤ ws2.heap.size := (by have := hs2.size; first | omega | (simp at this; omega)); obtain ⟨t1, t2, rfl⟩ : ∃ a c, vt = .slice a L.length c := (by obtain ⟨a, c, rfl, _, _⟩ := ot.ints.val; exact ⟨a, c, by simp⟩); have Not : Hid (∀ q, (.slice t1 L.length t2 : Value).ownBlock = some q → ws1.heap.size ≤ q ∧ q < ws2.heap.size) := Lib.hid (fun q hq => by have := ot.block_lt hq; first | exact this | (simp at this; omega)); have bot := ot.mono (B' := w3.heap.size) (Es1).size; have hn2_0 : w.heap.size + 1 + 1 + 1 ≠ ws2.heap.size := (by omega); have Y2 := Y1.ext hs2; have fb_0 := Y2.free 0; have yb_0 := Y2.cell (j := 0) rfl; have fb_1 := Y2.free 1; have yb_1 := Y2.cell (j := 1) rfl; have fb_2 := Y2.free 2; have yb_2 := Y2.cell (j := 2) rfl; have ylb := Y2.lt
    (try go_simp)
    refine hKc.out _ _ ?_ (fun hHeld => ?_) <;> clear hKc Kc
    · (first | (with_reducible exact ⟨(Ext.refl w3).drew.cell j3a_0, (Ext.refl w3).drew.cell j3a_1, (Ext.refl w3).drew.cell j3a_2⟩) | (with_reducible exact ⟨(((Ext.refl w3).alloc _).drew).cell j3a_0, (((Ext.refl w3).alloc _).drew).cell j3a_1, (((Ext.refl w3).alloc _).drew).cell j3a_2⟩) | (with_reducible exact ⟨xs1_0, xs1_1, xs1_2⟩) | (with_reducible exact ⟨(Es1.alloc _).cell j3a_0, (Es1.alloc _).cell j3a_1, (Es1.alloc _).cell j3a_2⟩) | (with_reducible exact ⟨xs2_0, xs2_1, xs2_2⟩) | (with_reducible exact ⟨(Es2.alloc _).cell j3a_0, (Es2.alloc _).cell j3a_1, (Es2.alloc _).cell j3a_2⟩) | (with_reducible exact ⟨grown_cell (b := w3.heap.size) (grown_setCell (grown_setCell (grown_setCell (grown_refl _ _) _ _) _ _) _ _) hn0_0 xs2_0, grown_cell (b := w3.heap.size) (grown_setCell (grown_setCell (grown_setCell (grown_refl _ _) _ _) _ _) _ _) hn0_0 xs2_1, grown_cell (b := w3.heap.size) (grown_setCell (grown_setCell (grown_setCell (grown_refl _ _) _ _) _ _) _ _) hn0_0 xs2_2⟩) | (with_reducible exact ⟨grown_cell (b := ws1.heap.size) (grown_setCell (grown_setCell (grown_setCell (grown_refl _ _) _ _) _ _) _ _) hn1_0 xs2_0, grown_cell (b := ws1.heap.size) (grown_setCell (grown_setCell (grown_setCell (grown_refl _ _) _ _) _ _) _ _) hn1_0 xs2_1, grown_cell (b := ws1.heap.size) (grown_setCell (grown_setCell (grown_setCell (grown_refl _ _) _ _) _ _) _ _) hn1_0 xs2_2⟩))
    refine wpAnyH_take (i := 6) (v := ?_) rfl (by kernel_rfl) (by kernel_rfl) (by kernel_rfl) (fun _ _ _ h => h) (Or.inl ⟨by rfl, ?_⟩) (by assumption) ?_
    rotate_left
    · intro w hSw; (try dsimp only at hSw); go_simp; (try with_reducible rfl)
    (try go_simp)
    refine wpAnyH_ready (rs := [8]) (by kernel_rfl) (by simp) ?_
    refine AllReadyH.cons rfl (fun Kc hKc => ?_) AllReadyH.nil
    go_simp
    refine hKc.out _ _ ?_ (fun hHeld => ?_) <;> clear hKc Kc
    · (first | (with_reducible exact ⟨(Ext.refl w3).drew.cell j3a_0, (Ext.refl w3).drew.cell j3a_1, (Ext.refl w3).drew.cell j3a_2⟩) | (with_reducible exact ⟨(((Ext.refl w3).alloc _).drew).cell j3a_0, (((Ext.refl w3).alloc _).drew).cell j3a_1, (((Ext.refl w3).alloc _).drew).cell j3a_2⟩) | (with_reducible exact ⟨xs1_0, xs1_1, xs1_2⟩) | (with_reducible exact ⟨(Es1.alloc _).cell j3a_0, (Es1.alloc _).cell j3a_1, (Es1.alloc _).cell j3a_2⟩) | (with_reducible exact ⟨xs2_0, xs2_1, xs2_2⟩) | (with_reducible exact ⟨(Es2.alloc _).cell j3a_0, (Es2.alloc _).cell j3a_1, (Es2.alloc _).cell j3a_2⟩) | (with_reducible exact ⟨grown_cell (b := w3.heap.size) (grown_setCell (grown_setCell (grown_setCell (grown_refl _ _) _ _) _ _) _ _) hn0_0 xs2_0, grown_cell (b := w3.heap.size) (grown_setCell (grown_setCell (grown_setCell (grown_refl _ _) _ _) _ _) _ _) hn0_0 xs2_1, grown_cell (b := w3.heap.size) (grown_setCell (grown_setCell (grown_setCell (grown_refl _ _) _ _) _ _) _ _) hn0_0 xs2_2⟩) | (with_reducible exact ⟨grown_cell (b := ws1.heap.size) (grown_setCell (grown_setCell (grown_setCell (grown_refl _ _) _ _) _ _) _ _) hn1_0 xs2_0, grown_cell (b := ws1.heap.size) (grown_setCell (grown_setCell (grown_setCell (grown_refl _ _) _ _) _ _) _ _) hn1_0 xs2_1, grown_cell (b := ws1.heap.size) (grown_setCell (grown_setCell (grown_setCell (grown_refl _ _) _ _) _ _) _ _) hn1_0 xs2_2⟩))
    refine wpAnyH_done (by kernel_rfl) ?_ _
    go_wp2_with fail
    go_meet
    exact ⟨w3.heap.size, s1, s2, t1, t2, rfl, (((Y2.set 0 (.slice s1 L.length s2)).set 1 (.slice t1 L.length t2)).set 2 (.slice none 0 0)), (((Es2.setAt (Nat.le_refl _) _ _).setAt (Nat.le_refl _) _ _).setAt (Nat.le_refl _) _ _), ((((bos.ext hs2).setOther (p := ⟨w3.heap.size, 0, none⟩) (fun z hz => by have := Nos.out z hz; simp only []; omega) _).setOther (p := ⟨w3.heap.size, 1, none⟩) (fun z hz => by have := Nos.out z hz; simp only []; omega) _).setOther (p := ⟨w3.heap.size, 2, none⟩) (fun z hz => by have := Nos.out z hz; simp only []; omega) _), (((bot.setOther (p := ⟨w3.heap.size, 0, none⟩) (fun z hz => by have := Not.out z hz; simp only []; omega) _).setOther (p := ⟨w3.heap.size, 1, none⟩) (fun z hz => by have := Not.out z hz; simp only []; omega) _).setOther (p := ⟨w3.heap.size, 2, none⟩) (fun z hz => by have := Not.out z hz; simp only []; omega) _), (fun z hz => ⟨fun e => by have := Nos.out z hz; have := Not.out z e; omega, by have := Nos.out z hz; omega⟩), (fun z hz => by have := Not.out z hz; omega), (by omega)⟩
  case rest =>
    obtain ⟨bu, s1, s2, t1, t2, rfl, Bu, E3, oL, oD, dst, dt, hbu⟩ := hcut
    clear j3f_0 j3f_1 j3f_2 j3q_0 j3q_1 j3q_2 j3m_0 j3m_1 j3a_0 j3a_1 j3a_2 l3f l3q l3m l3a
    have E1c : Ext w1 wc := E13.trans E3
    have hcs := E3.size
    have HST := Lib.hid dst; have HDT := Lib.hid dt; clear dst dt
    have NL : Hid (∀ z, (Value.slice s1 L.length s2).ownBlock = some z → z < wc.heap.size) := Lib.hid fun z hz => (oL.block_lt hz).2
    have ND : Hid (∀ z, (Value.slice t1 L.length t2).ownBlock = some z → z < wc.heap.size) := Lib.hid fun z hz => (oD.block_lt hz).2
    have hbul := Bu.lt
    go_wp2_with fail
    go_loopw [11] (fun i wr => ∃ (j : Nat) (vd : Value), j ≤ P ∧ i = .int .i64 j ∧ Blk wr bu 32 [.slice s1 L.length s2, .slice t1 L.length t2, vd] ∧ OwnI wr w3.heap.size (.slice s1 L.length s2) L ∧ OwnI wr w3.heap.size (.slice t1 L.length t2) (L.map dm) ∧ OwnI wr wc.heap.size vd (flat ((xs.take j).map (homEl H))) ∧ Ext w1 wr ∧ wc.heap.size ≤ wr.heap.size) (fun i wr => P - (RowKit.intOf i).toNat)
    case atStart => exact ⟨0, _, Nat.zero_le _, rfl, Bu, oL, oD, OwnI.nil _ _, E1c, Nat.le_refl _⟩
    case round =>
      obtain ⟨j, vd, hj, rfl, BP6, oL6, oD6, oY6, hE6, hs6⟩ := hrel
      clear Bu oL oD
      have B5f := Bf.ext hE6
      have B5q := Bq.ext hE6
      have B5m := Bm.ext hE6
      have B5a := Ba.ext hE6
      have B5z := Bz.ext hE6
      have j5f_0 := B5f.cell (j := 0) rfl
      have j5f_1 := B5f.cell (j := 1) rfl
      have j5f_2 := B5f.cell (j := 2) rfl
      have j5q_0 := B5q.cell (j := 0) rfl
      have j5q_1 := B5q.cell (j := 1) rfl
      have j5q_2 := B5q.cell (j := 2) rfl
      have j5m_0 := B5m.cell (j := 0) rfl
      have j5m_1 := B5m.cell (j := 1) rfl
      have j5a_0 := B5a.cell (j := 0) rfl
      have j5a_1 := B5a.cell (j := 1) rfl
      have j5a_2 := B5a.cell (j := 2) rfl
      have l5f := B5f.lt
      have l5q := B5q.lt
      have l5m := B5m.lt
      have l5a := B5a.lt
      go_wp2_with fail
      refine (productOf_any _ (L.map dm) _ ((haD.ext h1).ext hE6) HT.out.ax.dims HT.out.ax.size).mono ?_; rintro e5 w5 ⟨rfl, rfl⟩; rw [HPS.out]
      by_cases hlt : j < P
      · skip
        obtain ⟨Y, hY⟩ : ∃ Y, flat ((xs.take j).map (homEl H)) = Y := ⟨_, rfl⟩
        rw [hY] at oY6
        obtain ⟨av, cv, rfl, _, _⟩ := oY6.ints.val
        have hYl : Y.length ≤ 4096 * 6 := by rw [← hY, flat_length HV.out, List.length_map, List.length_take, HSl.out]; exact Nat.mul_le_mul (by omega) hV6
        obtain ⟨xe, hxe⟩ : ∃ xe, xs[j]? = some xe := ⟨_, List.getElem?_eq_getElem (by rw [HSl.out]; exact hlt)⟩
        have HG : Hid (getL (flat xs) (j * W) W = xe.1) := Lib.hid (flat_get HWW.out hxe)
        have HFL : Hid (flat ((xs.take (j + 1)).map (homEl H)) = Y ++ (homEl H xe).1) := Lib.hid (by rw [take_snocA hxe, List.map_append, List.map_cons, List.map_nil, flat_snoc, hY])
        have HXK := Lib.hid xe.2
        have hxl : (homEl H xe).1.length = V := El.len HV.out _
        obtain ⟨x, hx⟩ : ∃ x, (homEl H xe).1 = x := ⟨_, rfl⟩
        have HXX : Hid (homL fk fp tk tp tn hk ha xe.1 = x) := Lib.hid hx
        rw [hx] at hxl HFL
        have HXL2 := Lib.hid hxl
        obtain ⟨y, hy⟩ : ∃ y, xe.1 = y := ⟨_, rfl⟩
        rw [hy] at HXX HG HXK
        have HF : Hid (j * W + W ≤ (flat xs).length) := Lib.hid (by rw [HXL.out]; have : (j + 1) * W ≤ P * W := Nat.mul_le_mul_right _ (by omega); rw [Nat.add_mul, Nat.one_mul] at this; exact this)
        have jW : (j : Int) * (W : Int) = ((j * W : Nat) : Int) := by simp
        have JW := Lib.hid jW
        have hj0 : (0 : Int) ≤ (j : Int) := by omega
        clear hY hxl hx hy hxe jW
        have NY : Hid (∀ q, (Value.slice av Y.length cv).ownBlock = some q → wc.heap.size ≤ q ∧ q < wr.heap.size) := Lib.hid fun q hq => oY6.block_lt hq
        have D0 : Ext wr wr.drew := (Ext.refl _).drew
        have hsA := haX.ext (h1.trans hE6)
        have hnbf : w.heap.size ≠ bu := by have := HS1.out; have := HS13.out; omega
        have hnbq : w.heap.size + 1 ≠ bu := by have := HS1.out; have := HS13.out; omega
        have hnbm : w.heap.size + 1 + 1 ≠ bu := by have := HS1.out; have := HS13.out; omega
        have hnba : w.heap.size + 1 + 1 + 1 ≠ bu := by have := HS1.out; have := HS13.out; omega
        have kf_0 := Bf.cell (j := 0) rfl
        have kf_1 := Bf.cell (j := 1) rfl
        have kf_2 := Bf.cell (j := 2) rfl
        have kq_0 := Bq.cell (j := 0) rfl
        have kq_1 := Bq.cell (j := 1) rfl
        have kq_2 := Bq.cell (j := 2) rfl
        have km_0 := Bm.cell (j := 0) rfl
        have km_1 := Bm.cell (j := 1) rfl
        have ka_0 := Ba.cell (j := 0) rfl
        have ka_1 := Ba.cell (j := 1) rfl
        have ka_2 := Ba.cell (j := 2) rfl
        have oD := oY6
        have q2 := BP6.cell (j := 2) rfl
        have lq := BP6.lt
        have hcw3 : w1.heap.size ≤ wc.heap.size := by have := HS13.out; omega
        go_upto_region 7 with fail
        refine wp_region_held_drew (S := fun w' => w'.cell? ⟨w.heap.size, 0, none⟩ = some (.int .i64 fk) ∧ w'.cell? ⟨w.heap.size, 1, none⟩ = some (.int .i64 fp) ∧ w'.cell? ⟨w.heap.size, 2, none⟩ = some (.int .i64 fn) ∧ w'.cell? ⟨w.heap.size + 1, 0, none⟩ = some (.int .i64 tk) ∧ w'.cell? ⟨w.heap.size + 1, 1, none⟩ = some (.int .i64 tp) ∧ w'.cell? ⟨w.heap.size + 1, 2, none⟩ = some (.int .i64 tn) ∧ w'.cell? ⟨w.heap.size + 1 + 1, 0, none⟩ = some (.int .i64 hk) ∧ w'.cell? ⟨w.heap.size + 1 + 1, 1, none⟩ = some (.int .i64 ha) ∧ w'.cell? ⟨w.heap.size + 1 + 1 + 1, 0, none⟩ = some (.slice ap1 L.length ac1) ∧ w'.cell? ⟨w.heap.size + 1 + 1 + 1, 1, none⟩ = some (.slice ap2 L.length ac2) ∧ w'.cell? ⟨w.heap.size + 1 + 1 + 1, 2, none⟩ = some (.slice (some ⟨bA, oA, none⟩) (flat xs).length ac3)) (by kernel_rfl) ?_ (fun hHeld => ?_)
        · (first | (with_reducible exact ⟨D0.cell j5f_0, D0.cell j5f_1, D0.cell j5f_2, D0.cell j5q_0, D0.cell j5q_1, D0.cell j5q_2, D0.cell j5m_0, D0.cell j5m_1, D0.cell j5a_0, D0.cell j5a_1, D0.cell j5a_2⟩) | (with_reducible exact ⟨r7f_0, r7f_1, r7f_2, r7q_0, r7q_1, r7q_2, r7m_0, r7m_1, r7a_0, r7a_1, r7a_2⟩) | (with_reducible exact ⟨r8f_0, r8f_1, r8f_2, r8q_0, r8q_1, r8q_2, r8m_0, r8m_1, r8a_0, r8a_1, r8a_2⟩) | (with_reducible exact ⟨r9f_0, r9f_1, r9f_2, r9q_0, r9q_1, r9q_2, r9m_0, r9m_1, r9a_0, r9a_1, r9a_2⟩) | (with_reducible exact ⟨grown_cell (b := bu) (grown_setCell (grown_refl _ _) _ _) hnbf r9f_0, grown_cell (b := bu) (grown_setCell (grown_refl _ _) _ _) hnbf r9f_1, grown_cell (b := bu) (grown_setCell (grown_refl _ _) _ _) hnbf r9f_2, grown_cell (b := bu) (grown_setCell (grown_refl _ _) _ _) hnbq r9q_0, grown_cell (b := bu) (grown_setCell (grown_refl _ _) _ _) hnbq r9q_1, grown_cell (b := bu) (grown_setCell (grown_refl _ _) _ _) hnbq r9q_2, grown_cell (b := bu) (grown_setCell (grown_refl _ _) _ _) hnbm r9m_0, grown_cell (b := bu) (grown_setCell (grown_refl _ _) _ _) hnbm r9m_1, grown_cell (b := bu) (grown_setCell (grown_refl _ _) _ _) hnba r9a_0, grown_cell (b := bu) (grown_setCell (grown_refl _ _) _ _) hnba r9a_1, grown_cell (b := bu) (grown_setCell (grown_refl _ _) _ _) hnba r9a_2⟩))
        refine wpAnyH_take (i := 0) (v := ?_) rfl (by kernel_rfl) (by kernel_rfl) (by kernel_rfl) (fun _ _ _ h => h) (Or.inl ⟨by rfl, ?_⟩) (by assumption) ?_
        rotate_left
        · intro w hSw; (try dsimp only at hSw); go_simp; (try with_reducible rfl)
        (try go_simp)
        refine wpAnyH_take (i := 2) (v := ?_) rfl (by kernel_rfl) (by kernel_rfl) (by kernel_rfl) (fun _ _ _ h => h) (Or.inl ⟨by rfl, ?_⟩) (by assumption) ?_
        rotate_left
        · intro w hSw; (try dsimp only at hSw); go_simp; (try with_reducible rfl)
        (try go_simp)
        refine wpAnyH_take (i := 3) (v := ?_) rfl (by kernel_rfl) (by kernel_rfl) (by kernel_rfl) (fun _ _ _ h => h) (Or.inl ⟨by rfl, ?_⟩) (by assumption) ?_
        rotate_left
        · intro w hSw; (try dsimp only at hSw); go_simp; (try with_reducible rfl)
        (try go_simp)
        refine wpAnyH_take (i := 4) (v := ?_) rfl (by kernel_rfl) (by kernel_rfl) (by kernel_rfl) (fun _ _ _ h => h) (Or.inl ⟨by rfl, ?_⟩) (by assumption) ?_
        rotate_left
        · intro w hSw; (try dsimp only at hSw); go_simp; (try with_reducible rfl)
        (try go_simp)
        refine wpAnyH_take (i := 5) (v := ?_) rfl (by kernel_rfl) (by kernel_rfl) (by kernel_rfl) (fun _ _ _ h => h) (Or.inl ⟨by rfl, ?_⟩) (by assumption) ?_
        rotate_left
        · intro w hSw; (try dsimp only at hSw); go_simp; (try with_reducible rfl)
        (try go_simp)
        refine wpAnyH_take (i := 6) (v := ?_) rfl (by kernel_rfl) (by kernel_rfl) (by kernel_rfl) (fun _ _ _ h => h) (Or.inl ⟨by rfl, ?_⟩) (by assumption) ?_
        rotate_left
        · intro w hSw; (try dsimp only at hSw); go_simp; (try with_reducible rfl)
        (try go_simp)
        refine wpAnyH_take (i := 7) (v := ?_) rfl (by kernel_rfl) (by kernel_rfl) (by kernel_rfl) (fun _ _ _ h => h) (Or.inl ⟨by rfl, ?_⟩) (by assumption) ?_
        rotate_left
        · intro w hSw; (try dsimp only at hSw); go_simp; (try with_reducible rfl)
        (try go_simp)
        refine wpAnyH_ready (rs := [1, 8]) (by kernel_rfl) (by simp) ?_
        refine AllReadyH.cons rfl (fun Kc hKc => ?_) ?_
        · skip
          go_simp
          refine hKc.out _ _ ?_ (fun hHeld => ?_) <;> clear hKc Kc
          · (first | (with_reducible exact ⟨D0.cell j5f_0, D0.cell j5f_1, D0.cell j5f_2, D0.cell j5q_0, D0.cell j5q_1, D0.cell j5q_2, D0.cell j5m_0, D0.cell j5m_1, D0.cell j5a_0, D0.cell j5a_1, D0.cell j5a_2⟩) | (with_reducible exact ⟨r7f_0, r7f_1, r7f_2, r7q_0, r7q_1, r7q_2, r7m_0, r7m_1, r7a_0, r7a_1, r7a_2⟩) | (with_reducible exact ⟨r8f_0, r8f_1, r8f_2, r8q_0, r8q_1, r8q_2, r8m_0, r8m_1, r8a_0, r8a_1, r8a_2⟩) | (with_reducible exact ⟨r9f_0, r9f_1, r9f_2, r9q_0, r9q_1, r9q_2, r9m_0, r9m_1, r9a_0, r9a_1, r9a_2⟩) | (with_reducible exact ⟨grown_cell (b := bu) (grown_setCell (grown_refl _ _) _ _) hnbf r9f_0, grown_cell (b := bu) (grown_setCell (grown_refl _ _) _ _) hnbf r9f_1, grown_cell (b := bu) (grown_setCell (grown_refl _ _) _ _) hnbf r9f_2, grown_cell (b := bu) (grown_setCell (grown_refl _ _) _ _) hnbq r9q_0, grown_cell (b := bu) (grown_setCell (grown_refl _ _) _ _) hnbq r9q_1, grown_cell (b := bu) (grown_setCell (grown_refl _ _) _ _) hnbq r9q_2, grown_cell (b := bu) (grown_setCell (grown_refl _ _) _ _) hnbm r9m_0, grown_cell (b := bu) (grown_setCell (grown_refl _ _) _ _) hnbm r9m_1, grown_cell (b := bu) (grown_setCell (grown_refl _ _) _ _) hnba r9a_0, grown_cell (b := bu) (grown_setCell (grown_refl _ _) _ _) hnba r9a_1, grown_cell (b := bu) (grown_setCell (grown_refl _ _) _ _) hnba r9a_2⟩))
          refine wpAnyH_ready (rs := [8]) (by kernel_rfl) (by simp) ?_
          refine AllReadyH.cons rfl (fun Kc hKc => ?_) AllReadyH.nil
          go_simp; go_at_call 110
          (with_reducible refine (rawElem_gen fk fp fn j (j * W) W HWW.out _ _ _ _ _ _ bA oA (flat xs).length ac3 wr.drew JW.out hj0 hw HF.out hcA hX9).mono ?_); rintro e7 w7 ⟨rfl, h7⟩; have E7 : Ext wr w7 := D0.trans h7; have pA := IntS.part (hsA.ext E7) (W := W) (o := j * W) hW1' HF.out; rw [HG.out] at pA; have q7 := E7.cell q2; have r7f_0 := E7.cell j5f_0; have r7f_1 := E7.cell j5f_1; have r7f_2 := E7.cell j5f_2; have r7q_0 := E7.cell j5q_0; have r7q_1 := E7.cell j5q_1; have r7q_2 := E7.cell j5q_2; have r7m_0 := E7.cell j5m_0; have r7m_1 := E7.cell j5m_1; have r7a_0 := E7.cell j5a_0; have r7a_1 := E7.cell j5a_1; have r7a_2 := E7.cell j5a_2
          (try go_simp)
          refine hKc.out _ _ ?_ (fun hHeld => ?_) <;> clear hKc Kc
          · (first | (with_reducible exact ⟨D0.cell j5f_0, D0.cell j5f_1, D0.cell j5f_2, D0.cell j5q_0, D0.cell j5q_1, D0.cell j5q_2, D0.cell j5m_0, D0.cell j5m_1, D0.cell j5a_0, D0.cell j5a_1, D0.cell j5a_2⟩) | (with_reducible exact ⟨r7f_0, r7f_1, r7f_2, r7q_0, r7q_1, r7q_2, r7m_0, r7m_1, r7a_0, r7a_1, r7a_2⟩) | (with_reducible exact ⟨r8f_0, r8f_1, r8f_2, r8q_0, r8q_1, r8q_2, r8m_0, r8m_1, r8a_0, r8a_1, r8a_2⟩) | (with_reducible exact ⟨r9f_0, r9f_1, r9f_2, r9q_0, r9q_1, r9q_2, r9m_0, r9m_1, r9a_0, r9a_1, r9a_2⟩) | (with_reducible exact ⟨grown_cell (b := bu) (grown_setCell (grown_refl _ _) _ _) hnbf r9f_0, grown_cell (b := bu) (grown_setCell (grown_refl _ _) _ _) hnbf r9f_1, grown_cell (b := bu) (grown_setCell (grown_refl _ _) _ _) hnbf r9f_2, grown_cell (b := bu) (grown_setCell (grown_refl _ _) _ _) hnbq r9q_0, grown_cell (b := bu) (grown_setCell (grown_refl _ _) _ _) hnbq r9q_1, grown_cell (b := bu) (grown_setCell (grown_refl _ _) _ _) hnbq r9q_2, grown_cell (b := bu) (grown_setCell (grown_refl _ _) _ _) hnbm r9m_0, grown_cell (b := bu) (grown_setCell (grown_refl _ _) _ _) hnbm r9m_1, grown_cell (b := bu) (grown_setCell (grown_refl _ _) _ _) hnba r9a_0, grown_cell (b := bu) (grown_setCell (grown_refl _ _) _ _) hnba r9a_1, grown_cell (b := bu) (grown_setCell (grown_refl _ _) _ _) hnba r9a_2⟩))
          refine wpAnyH_ready (rs := [9]) (by kernel_rfl) (by simp) ?_
          refine AllReadyH.cons rfl (fun Kc hKc => ?_) AllReadyH.nil
          go_simp; go_at_call 118
          (with_reducible refine (rawHom_any fk fp fn tk tp tn hk ha _ y w7 HR.out HR2.out HRAW.out pA HXK.out).mono ?_); rintro e8 w8 ⟨v8, rfl, o8, h8⟩; rw [HXX.out] at o8; obtain ⟨a8, c8, rfl, _, _⟩ := o8.ints.val; have hpart := o8.ints; have E8 : Ext wr w8 := E7.trans h8; have q8 := E8.cell q2; have r8f_0 := E8.cell j5f_0; have r8f_1 := E8.cell j5f_1; have r8f_2 := E8.cell j5f_2; have r8q_0 := E8.cell j5q_0; have r8q_1 := E8.cell j5q_1; have r8q_2 := E8.cell j5q_2; have r8m_0 := E8.cell j5m_0; have r8m_1 := E8.cell j5m_1; have r8a_0 := E8.cell j5a_0; have r8a_1 := E8.cell j5a_1; have r8a_2 := E8.cell j5a_2
          (try go_simp)
          refine hKc.out _ _ ?_ (fun hHeld => ?_) <;> clear hKc Kc
          · (first | (with_reducible exact ⟨D0.cell j5f_0, D0.cell j5f_1, D0.cell j5f_2, D0.cell j5q_0, D0.cell j5q_1, D0.cell j5q_2, D0.cell j5m_0, D0.cell j5m_1, D0.cell j5a_0, D0.cell j5a_1, D0.cell j5a_2⟩) | (with_reducible exact ⟨r7f_0, r7f_1, r7f_2, r7q_0, r7q_1, r7q_2, r7m_0, r7m_1, r7a_0, r7a_1, r7a_2⟩) | (with_reducible exact ⟨r8f_0, r8f_1, r8f_2, r8q_0, r8q_1, r8q_2, r8m_0, r8m_1, r8a_0, r8a_1, r8a_2⟩) | (with_reducible exact ⟨r9f_0, r9f_1, r9f_2, r9q_0, r9q_1, r9q_2, r9m_0, r9m_1, r9a_0, r9a_1, r9a_2⟩) | (with_reducible exact ⟨grown_cell (b := bu) (grown_setCell (grown_refl _ _) _ _) hnbf r9f_0, grown_cell (b := bu) (grown_setCell (grown_refl _ _) _ _) hnbf r9f_1, grown_cell (b := bu) (grown_setCell (grown_refl _ _) _ _) hnbf r9f_2, grown_cell (b := bu) (grown_setCell (grown_refl _ _) _ _) hnbq r9q_0, grown_cell (b := bu) (grown_setCell (grown_refl _ _) _ _) hnbq r9q_1, grown_cell (b := bu) (grown_setCell (grown_refl _ _) _ _) hnbq r9q_2, grown_cell (b := bu) (grown_setCell (grown_refl _ _) _ _) hnbm r9m_0, grown_cell (b := bu) (grown_setCell (grown_refl _ _) _ _) hnbm r9m_1, grown_cell (b := bu) (grown_setCell (grown_refl _ _) _ _) hnba r9a_0, grown_cell (b := bu) (grown_setCell (grown_refl _ _) _ _) hnba r9a_1, grown_cell (b := bu) (grown_setCell (grown_refl _ _) _ _) hnba r9a_2⟩))
          refine wpAnyH_ready (rs := [10]) (by kernel_rfl) (by simp) ?_
          refine AllReadyH.cons rfl (fun Kc hKc => ?_) AllReadyH.nil
          refine step_app w8 rfl _ _ 27 rfl (.slice av Y.length cv) (.slice a8 x.length c8) rfl rfl _ (run_app_ints _ w8 wc.heap.size _ _ Y x (oD.ext E8) hpart (by rw [HXL2.out]; omega) (by have := E8.size; omega)) ?_; rintro v9 w9 ⟨o9, g9, _⟩; obtain ⟨a9, c9, hv9, _, _⟩ := o9.ints.val; subst hv9; have BP9 := (BP6.ext E8).block (g9.block _ (by have := E8.size; have := BP6.lt; omega) (fun e => by have := NY.out _ e.symm; omega)); have z9 := BP9.free 2; have q9 := BP9.cell (j := 2) rfl; have u9 := BP9.lt; have E9 : Ext w1 w9 := (hE6.trans E8).only g9 (fun z hz => by have := NY.out z hz; omega); have r9f_0 := E9.cell kf_0; have r9f_1 := E9.cell kf_1; have r9f_2 := E9.cell kf_2; have r9q_0 := E9.cell kq_0; have r9q_1 := E9.cell kq_1; have r9q_2 := E9.cell kq_2; have r9m_0 := E9.cell km_0; have r9m_1 := E9.cell km_1; have r9a_0 := E9.cell ka_0; have r9a_1 := E9.cell ka_1; have r9a_2 := E9.cell ka_2
          refine hKc.out _ _ ?_ (fun hHeld => ?_) <;> clear hKc Kc
          · (first | (with_reducible exact ⟨D0.cell j5f_0, D0.cell j5f_1, D0.cell j5f_2, D0.cell j5q_0, D0.cell j5q_1, D0.cell j5q_2, D0.cell j5m_0, D0.cell j5m_1, D0.cell j5a_0, D0.cell j5a_1, D0.cell j5a_2⟩) | (with_reducible exact ⟨r7f_0, r7f_1, r7f_2, r7q_0, r7q_1, r7q_2, r7m_0, r7m_1, r7a_0, r7a_1, r7a_2⟩) | (with_reducible exact ⟨r8f_0, r8f_1, r8f_2, r8q_0, r8q_1, r8q_2, r8m_0, r8m_1, r8a_0, r8a_1, r8a_2⟩) | (with_reducible exact ⟨r9f_0, r9f_1, r9f_2, r9q_0, r9q_1, r9q_2, r9m_0, r9m_1, r9a_0, r9a_1, r9a_2⟩) | (with_reducible exact ⟨grown_cell (b := bu) (grown_setCell (grown_refl _ _) _ _) hnbf r9f_0, grown_cell (b := bu) (grown_setCell (grown_refl _ _) _ _) hnbf r9f_1, grown_cell (b := bu) (grown_setCell (grown_refl _ _) _ _) hnbf r9f_2, grown_cell (b := bu) (grown_setCell (grown_refl _ _) _ _) hnbq r9q_0, grown_cell (b := bu) (grown_setCell (grown_refl _ _) _ _) hnbq r9q_1, grown_cell (b := bu) (grown_setCell (grown_refl _ _) _ _) hnbq r9q_2, grown_cell (b := bu) (grown_setCell (grown_refl _ _) _ _) hnbm r9m_0, grown_cell (b := bu) (grown_setCell (grown_refl _ _) _ _) hnbm r9m_1, grown_cell (b := bu) (grown_setCell (grown_refl _ _) _ _) hnba r9a_0, grown_cell (b := bu) (grown_setCell (grown_refl _ _) _ _) hnba r9a_1, grown_cell (b := bu) (grown_setCell (grown_refl _ _) _ _) hnba r9a_2⟩))
          refine wpAnyH_take (i := 11) (v := ?_) rfl (by kernel_rfl) (by kernel_rfl) (by kernel_rfl) (fun _ _ _ h => h) (Or.inl ⟨by rfl, ?_⟩) (by assumption) ?_
          rotate_left
          · intro w hSw; (try dsimp only at hSw); go_simp; (try with_reducible rfl)
          (try go_simp)
          refine wpAnyH_ready (rs := [12]) (by kernel_rfl) (by simp) ?_
          refine AllReadyH.cons rfl (fun Kc hKc => ?_) AllReadyH.nil
          go_simp
          refine hKc.out _ _ ?_ (fun hHeld => ?_) <;> clear hKc Kc
          · (first | (with_reducible exact ⟨D0.cell j5f_0, D0.cell j5f_1, D0.cell j5f_2, D0.cell j5q_0, D0.cell j5q_1, D0.cell j5q_2, D0.cell j5m_0, D0.cell j5m_1, D0.cell j5a_0, D0.cell j5a_1, D0.cell j5a_2⟩) | (with_reducible exact ⟨r7f_0, r7f_1, r7f_2, r7q_0, r7q_1, r7q_2, r7m_0, r7m_1, r7a_0, r7a_1, r7a_2⟩) | (with_reducible exact ⟨r8f_0, r8f_1, r8f_2, r8q_0, r8q_1, r8q_2, r8m_0, r8m_1, r8a_0, r8a_1, r8a_2⟩) | (with_reducible exact ⟨r9f_0, r9f_1, r9f_2, r9q_0, r9q_1, r9q_2, r9m_0, r9m_1, r9a_0, r9a_1, r9a_2⟩) | (with_reducible exact ⟨grown_cell (b := bu) (grown_setCell (grown_refl _ _) _ _) hnbf r9f_0, grown_cell (b := bu) (grown_setCell (grown_refl _ _) _ _) hnbf r9f_1, grown_cell (b := bu) (grown_setCell (grown_refl _ _) _ _) hnbf r9f_2, grown_cell (b := bu) (grown_setCell (grown_refl _ _) _ _) hnbq r9q_0, grown_cell (b := bu) (grown_setCell (grown_refl _ _) _ _) hnbq r9q_1, grown_cell (b := bu) (grown_setCell (grown_refl _ _) _ _) hnbq r9q_2, grown_cell (b := bu) (grown_setCell (grown_refl _ _) _ _) hnbm r9m_0, grown_cell (b := bu) (grown_setCell (grown_refl _ _) _ _) hnbm r9m_1, grown_cell (b := bu) (grown_setCell (grown_refl _ _) _ _) hnba r9a_0, grown_cell (b := bu) (grown_setCell (grown_refl _ _) _ _) hnba r9a_1, grown_cell (b := bu) (grown_setCell (grown_refl _ _) _ _) hnba r9a_2⟩))
          refine wpAnyH_done (by kernel_rfl) ?_ _
          rw [List.length_append] at o9
          obtain ⟨v9, hvv9⟩ : ∃ v : Value, .slice a9 (Y.length + x.length) c9 = v := ⟨_, rfl⟩
          rw [hvv9] at o9 ⊢
          have nb : ∀ (v : Value) (l : List Int), OwnI wr w3.heap.size v l → (∀ q, v.ownBlock = some q → q < wc.heap.size ∧ q ≠ bu) → OwnI (w9.setCell ⟨bu, 2, none⟩ v9) w3.heap.size v l := fun v l h hq =>
            ((h.ext E8).only g9 (fun z hz e => by have := NY.out z e; have := hq z hz; omega)).setOther (fun z hz => by have := hq z hz; simp only []; omega) _
          have o1c := nb _ _ oL6 (fun z hz => ⟨NL.out z hz, (HST.out z hz).2⟩)
          have o2c := nb _ _ oD6 (fun z hz => ⟨ND.out z hz, HDT.out z hz⟩)
          have BPc := BP9.set 2 v9
          have oDc := o9.setBelow (p := ⟨bu, 2, none⟩) (by simp only []; omega) v9
          have Ec : Ext w1 (w9.setCell ⟨bu, 2, none⟩ v9) := ((hE6.trans E8).only g9 (fun z hz => by have := NY.out z hz; omega)).setAt (by have := HS13.out; omega) _ _
          have hszc : wc.heap.size ≤ (w9.setCell ⟨bu, 2, none⟩ v9).heap.size := by have := g9.size; have := E8.size; simp; omega
          obtain ⟨wx, hwx⟩ : ∃ wx, w9.setCell ⟨bu, 2, none⟩ v9 = wx := ⟨_, rfl⟩
          rw [hwx] at o1c o2c BPc oDc Ec hszc ⊢
          clear nb hwx g9 o9 BP9 oL6 oD6 BP6 oY6 oD q2 j5f_0 j5f_1 j5f_2 j5q_0 j5q_1 j5q_2 j5m_0 j5m_1 j5a_0 j5a_1 j5a_2
          go_wp2_with fail
          go_roundw
          case rel => exact ⟨j + 1, v9, by omega, by go_num, BPc, o1c, o2c, by rw [HFL.out]; exact oDc, Ec, hszc⟩
          case measure => simp [RowKit.intOf]; omega
        refine AllReadyH.cons rfl (fun Kc hKc => ?_) AllReadyH.nil
        go_simp; go_at_call 110
        (with_reducible refine (rawElem_gen fk fp fn j (j * W) W HWW.out _ _ _ _ _ _ bA oA (flat xs).length ac3 wr.drew JW.out hj0 hw HF.out hcA hX9).mono ?_); rintro e7 w7 ⟨rfl, h7⟩; have E7 : Ext wr w7 := D0.trans h7; have pA := IntS.part (hsA.ext E7) (W := W) (o := j * W) hW1' HF.out; rw [HG.out] at pA; have q7 := E7.cell q2; have r7f_0 := E7.cell j5f_0; have r7f_1 := E7.cell j5f_1; have r7f_2 := E7.cell j5f_2; have r7q_0 := E7.cell j5q_0; have r7q_1 := E7.cell j5q_1; have r7q_2 := E7.cell j5q_2; have r7m_0 := E7.cell j5m_0; have r7m_1 := E7.cell j5m_1; have r7a_0 := E7.cell j5a_0; have r7a_1 := E7.cell j5a_1; have r7a_2 := E7.cell j5a_2
        (try go_simp)
        refine hKc.out _ _ ?_ (fun hHeld => ?_) <;> clear hKc Kc
        · (first | (with_reducible exact ⟨D0.cell j5f_0, D0.cell j5f_1, D0.cell j5f_2, D0.cell j5q_0, D0.cell j5q_1, D0.cell j5q_2, D0.cell j5m_0, D0.cell j5m_1, D0.cell j5a_0, D0.cell j5a_1, D0.cell j5a_2⟩) | (with_reducible exact ⟨r7f_0, r7f_1, r7f_2, r7q_0, r7q_1, r7q_2, r7m_0, r7m_1, r7a_0, r7a_1, r7a_2⟩) | (with_reducible exact ⟨r8f_0, r8f_1, r8f_2, r8q_0, r8q_1, r8q_2, r8m_0, r8m_1, r8a_0, r8a_1, r8a_2⟩) | (with_reducible exact ⟨r9f_0, r9f_1, r9f_2, r9q_0, r9q_1, r9q_2, r9m_0, r9m_1, r9a_0, r9a_1, r9a_2⟩) | (with_reducible exact ⟨grown_cell (b := bu) (grown_setCell (grown_refl _ _) _ _) hnbf r9f_0, grown_cell (b := bu) (grown_setCell (grown_refl _ _) _ _) hnbf r9f_1, grown_cell (b := bu) (grown_setCell (grown_refl _ _) _ _) hnbf r9f_2, grown_cell (b := bu) (grown_setCell (grown_refl _ _) _ _) hnbq r9q_0, grown_cell (b := bu) (grown_setCell (grown_refl _ _) _ _) hnbq r9q_1, grown_cell (b := bu) (grown_setCell (grown_refl _ _) _ _) hnbq r9q_2, grown_cell (b := bu) (grown_setCell (grown_refl _ _) _ _) hnbm r9m_0, grown_cell (b := bu) (grown_setCell (grown_refl _ _) _ _) hnbm r9m_1, grown_cell (b := bu) (grown_setCell (grown_refl _ _) _ _) hnba r9a_0, grown_cell (b := bu) (grown_setCell (grown_refl _ _) _ _) hnba r9a_1, grown_cell (b := bu) (grown_setCell (grown_refl _ _) _ _) hnba r9a_2⟩))
        refine wpAnyH_ready (rs := [1, 9]) (by kernel_rfl) (by simp) ?_
        refine AllReadyH.cons rfl (fun Kc hKc => ?_) ?_
        · skip
          go_simp
          refine hKc.out _ _ ?_ (fun hHeld => ?_) <;> clear hKc Kc
          · (first | (with_reducible exact ⟨D0.cell j5f_0, D0.cell j5f_1, D0.cell j5f_2, D0.cell j5q_0, D0.cell j5q_1, D0.cell j5q_2, D0.cell j5m_0, D0.cell j5m_1, D0.cell j5a_0, D0.cell j5a_1, D0.cell j5a_2⟩) | (with_reducible exact ⟨r7f_0, r7f_1, r7f_2, r7q_0, r7q_1, r7q_2, r7m_0, r7m_1, r7a_0, r7a_1, r7a_2⟩) | (with_reducible exact ⟨r8f_0, r8f_1, r8f_2, r8q_0, r8q_1, r8q_2, r8m_0, r8m_1, r8a_0, r8a_1, r8a_2⟩) | (with_reducible exact ⟨r9f_0, r9f_1, r9f_2, r9q_0, r9q_1, r9q_2, r9m_0, r9m_1, r9a_0, r9a_1, r9a_2⟩) | (with_reducible exact ⟨grown_cell (b := bu) (grown_setCell (grown_refl _ _) _ _) hnbf r9f_0, grown_cell (b := bu) (grown_setCell (grown_refl _ _) _ _) hnbf r9f_1, grown_cell (b := bu) (grown_setCell (grown_refl _ _) _ _) hnbf r9f_2, grown_cell (b := bu) (grown_setCell (grown_refl _ _) _ _) hnbq r9q_0, grown_cell (b := bu) (grown_setCell (grown_refl _ _) _ _) hnbq r9q_1, grown_cell (b := bu) (grown_setCell (grown_refl _ _) _ _) hnbq r9q_2, grown_cell (b := bu) (grown_setCell (grown_refl _ _) _ _) hnbm r9m_0, grown_cell (b := bu) (grown_setCell (grown_refl _ _) _ _) hnbm r9m_1, grown_cell (b := bu) (grown_setCell (grown_refl _ _) _ _) hnba r9a_0, grown_cell (b := bu) (grown_setCell (grown_refl _ _) _ _) hnba r9a_1, grown_cell (b := bu) (grown_setCell (grown_refl _ _) _ _) hnba r9a_2⟩))
          refine wpAnyH_ready (rs := [9]) (by kernel_rfl) (by simp) ?_
          refine AllReadyH.cons rfl (fun Kc hKc => ?_) AllReadyH.nil
          go_simp; go_at_call 118
          (with_reducible refine (rawHom_any fk fp fn tk tp tn hk ha _ y w7 HR.out HR2.out HRAW.out pA HXK.out).mono ?_); rintro e8 w8 ⟨v8, rfl, o8, h8⟩; rw [HXX.out] at o8; obtain ⟨a8, c8, rfl, _, _⟩ := o8.ints.val; have hpart := o8.ints; have E8 : Ext wr w8 := E7.trans h8; have q8 := E8.cell q2; have r8f_0 := E8.cell j5f_0; have r8f_1 := E8.cell j5f_1; have r8f_2 := E8.cell j5f_2; have r8q_0 := E8.cell j5q_0; have r8q_1 := E8.cell j5q_1; have r8q_2 := E8.cell j5q_2; have r8m_0 := E8.cell j5m_0; have r8m_1 := E8.cell j5m_1; have r8a_0 := E8.cell j5a_0; have r8a_1 := E8.cell j5a_1; have r8a_2 := E8.cell j5a_2
          (try go_simp)
          refine hKc.out _ _ ?_ (fun hHeld => ?_) <;> clear hKc Kc
          · (first | (with_reducible exact ⟨D0.cell j5f_0, D0.cell j5f_1, D0.cell j5f_2, D0.cell j5q_0, D0.cell j5q_1, D0.cell j5q_2, D0.cell j5m_0, D0.cell j5m_1, D0.cell j5a_0, D0.cell j5a_1, D0.cell j5a_2⟩) | (with_reducible exact ⟨r7f_0, r7f_1, r7f_2, r7q_0, r7q_1, r7q_2, r7m_0, r7m_1, r7a_0, r7a_1, r7a_2⟩) | (with_reducible exact ⟨r8f_0, r8f_1, r8f_2, r8q_0, r8q_1, r8q_2, r8m_0, r8m_1, r8a_0, r8a_1, r8a_2⟩) | (with_reducible exact ⟨r9f_0, r9f_1, r9f_2, r9q_0, r9q_1, r9q_2, r9m_0, r9m_1, r9a_0, r9a_1, r9a_2⟩) | (with_reducible exact ⟨grown_cell (b := bu) (grown_setCell (grown_refl _ _) _ _) hnbf r9f_0, grown_cell (b := bu) (grown_setCell (grown_refl _ _) _ _) hnbf r9f_1, grown_cell (b := bu) (grown_setCell (grown_refl _ _) _ _) hnbf r9f_2, grown_cell (b := bu) (grown_setCell (grown_refl _ _) _ _) hnbq r9q_0, grown_cell (b := bu) (grown_setCell (grown_refl _ _) _ _) hnbq r9q_1, grown_cell (b := bu) (grown_setCell (grown_refl _ _) _ _) hnbq r9q_2, grown_cell (b := bu) (grown_setCell (grown_refl _ _) _ _) hnbm r9m_0, grown_cell (b := bu) (grown_setCell (grown_refl _ _) _ _) hnbm r9m_1, grown_cell (b := bu) (grown_setCell (grown_refl _ _) _ _) hnba r9a_0, grown_cell (b := bu) (grown_setCell (grown_refl _ _) _ _) hnba r9a_1, grown_cell (b := bu) (grown_setCell (grown_refl _ _) _ _) hnba r9a_2⟩))
          refine wpAnyH_ready (rs := [10]) (by kernel_rfl) (by simp) ?_
          refine AllReadyH.cons rfl (fun Kc hKc => ?_) AllReadyH.nil
          refine step_app w8 rfl _ _ 27 rfl (.slice av Y.length cv) (.slice a8 x.length c8) rfl rfl _ (run_app_ints _ w8 wc.heap.size _ _ Y x (oD.ext E8) hpart (by rw [HXL2.out]; omega) (by have := E8.size; omega)) ?_; rintro v9 w9 ⟨o9, g9, _⟩; obtain ⟨a9, c9, hv9, _, _⟩ := o9.ints.val; subst hv9; have BP9 := (BP6.ext E8).block (g9.block _ (by have := E8.size; have := BP6.lt; omega) (fun e => by have := NY.out _ e.symm; omega)); have z9 := BP9.free 2; have q9 := BP9.cell (j := 2) rfl; have u9 := BP9.lt; have E9 : Ext w1 w9 := (hE6.trans E8).only g9 (fun z hz => by have := NY.out z hz; omega); have r9f_0 := E9.cell kf_0; have r9f_1 := E9.cell kf_1; have r9f_2 := E9.cell kf_2; have r9q_0 := E9.cell kq_0; have r9q_1 := E9.cell kq_1; have r9q_2 := E9.cell kq_2; have r9m_0 := E9.cell km_0; have r9m_1 := E9.cell km_1; have r9a_0 := E9.cell ka_0; have r9a_1 := E9.cell ka_1; have r9a_2 := E9.cell ka_2
          refine hKc.out _ _ ?_ (fun hHeld => ?_) <;> clear hKc Kc
          · (first | (with_reducible exact ⟨D0.cell j5f_0, D0.cell j5f_1, D0.cell j5f_2, D0.cell j5q_0, D0.cell j5q_1, D0.cell j5q_2, D0.cell j5m_0, D0.cell j5m_1, D0.cell j5a_0, D0.cell j5a_1, D0.cell j5a_2⟩) | (with_reducible exact ⟨r7f_0, r7f_1, r7f_2, r7q_0, r7q_1, r7q_2, r7m_0, r7m_1, r7a_0, r7a_1, r7a_2⟩) | (with_reducible exact ⟨r8f_0, r8f_1, r8f_2, r8q_0, r8q_1, r8q_2, r8m_0, r8m_1, r8a_0, r8a_1, r8a_2⟩) | (with_reducible exact ⟨r9f_0, r9f_1, r9f_2, r9q_0, r9q_1, r9q_2, r9m_0, r9m_1, r9a_0, r9a_1, r9a_2⟩) | (with_reducible exact ⟨grown_cell (b := bu) (grown_setCell (grown_refl _ _) _ _) hnbf r9f_0, grown_cell (b := bu) (grown_setCell (grown_refl _ _) _ _) hnbf r9f_1, grown_cell (b := bu) (grown_setCell (grown_refl _ _) _ _) hnbf r9f_2, grown_cell (b := bu) (grown_setCell (grown_refl _ _) _ _) hnbq r9q_0, grown_cell (b := bu) (grown_setCell (grown_refl _ _) _ _) hnbq r9q_1, grown_cell (b := bu) (grown_setCell (grown_refl _ _) _ _) hnbq r9q_2, grown_cell (b := bu) (grown_setCell (grown_refl _ _) _ _) hnbm r9m_0, grown_cell (b := bu) (grown_setCell (grown_refl _ _) _ _) hnbm r9m_1, grown_cell (b := bu) (grown_setCell (grown_refl _ _) _ _) hnba r9a_0, grown_cell (b := bu) (grown_setCell (grown_refl _ _) _ _) hnba r9a_1, grown_cell (b := bu) (grown_setCell (grown_refl _ _) _ _) hnba r9a_2⟩))
          refine wpAnyH_take (i := 11) (v := ?_) rfl (by kernel_rfl) (by kernel_rfl) (by kernel_rfl) (fun _ _ _ h => h) (Or.inl ⟨by rfl, ?_⟩) (by assumption) ?_
          rotate_left
          · intro w hSw; (try dsimp only at hSw); go_simp; (try with_reducible rfl)
          (try go_simp)
          refine wpAnyH_ready (rs := [12]) (by kernel_rfl) (by simp) ?_
          refine AllReadyH.cons rfl (fun Kc hKc => ?_) AllReadyH.nil
          go_simp
          refine hKc.out _ _ ?_ (fun hHeld => ?_) <;> clear hKc Kc
          · (first | (with_reducible exact ⟨D0.cell j5f_0, D0.cell j5f_1, D0.cell j5f_2, D0.cell j5q_0, D0.cell j5q_1, D0.cell j5q_2, D0.cell j5m_0, D0.cell j5m_1, D0.cell j5a_0, D0.cell j5a_1, D0.cell j5a_2⟩) | (with_reducible exact ⟨r7f_0, r7f_1, r7f_2, r7q_0, r7q_1, r7q_2, r7m_0, r7m_1, r7a_0, r7a_1, r7a_2⟩) | (with_reducible exact ⟨r8f_0, r8f_1, r8f_2, r8q_0, r8q_1, r8q_2, r8m_0, r8m_1, r8a_0, r8a_1, r8a_2⟩) | (with_reducible exact ⟨r9f_0, r9f_1, r9f_2, r9q_0, r9q_1, r9q_2, r9m_0, r9m_1, r9a_0, r9a_1, r9a_2⟩) | (with_reducible exact ⟨grown_cell (b := bu) (grown_setCell (grown_refl _ _) _ _) hnbf r9f_0, grown_cell (b := bu) (grown_setCell (grown_refl _ _) _ _) hnbf r9f_1, grown_cell (b := bu) (grown_setCell (grown_refl _ _) _ _) hnbf r9f_2, grown_cell (b := bu) (grown_setCell (grown_refl _ _) _ _) hnbq r9q_0, grown_cell (b := bu) (grown_setCell (grown_refl _ _) _ _) hnbq r9q_1, grown_cell (b := bu) (grown_setCell (grown_refl _ _) _ _) hnbq r9q_2, grown_cell (b := bu) (grown_setCell (grown_refl _ _) _ _) hnbm r9m_0, grown_cell (b := bu) (grown_setCell (grown_refl _ _) _ _) hnbm r9m_1, grown_cell (b := bu) (grown_setCell (grown_refl _ _) _ _) hnba r9a_0, grown_cell (b := bu) (grown_setCell (grown_refl _ _) _ _) hnba r9a_1, grown_cell (b := bu) (grown_setCell (grown_refl _ _) _ _) hnba r9a_2⟩))
          refine wpAnyH_done (by kernel_rfl) ?_ _
          rw [List.length_append] at o9
          obtain ⟨v9, hvv9⟩ : ∃ v : Value, .slice a9 (Y.length + x.length) c9 = v := ⟨_, rfl⟩
          rw [hvv9] at o9 ⊢
          have nb : ∀ (v : Value) (l : List Int), OwnI wr w3.heap.size v l → (∀ q, v.ownBlock = some q → q < wc.heap.size ∧ q ≠ bu) → OwnI (w9.setCell ⟨bu, 2, none⟩ v9) w3.heap.size v l := fun v l h hq =>
            ((h.ext E8).only g9 (fun z hz e => by have := NY.out z e; have := hq z hz; omega)).setOther (fun z hz => by have := hq z hz; simp only []; omega) _
          have o1c := nb _ _ oL6 (fun z hz => ⟨NL.out z hz, (HST.out z hz).2⟩)
          have o2c := nb _ _ oD6 (fun z hz => ⟨ND.out z hz, HDT.out z hz⟩)
          have BPc := BP9.set 2 v9
          have oDc := o9.setBelow (p := ⟨bu, 2, none⟩) (by simp only []; omega) v9
          have Ec : Ext w1 (w9.setCell ⟨bu, 2, none⟩ v9) := ((hE6.trans E8).only g9 (fun z hz => by have := NY.out z hz; omega)).setAt (by have := HS13.out; omega) _ _
          have hszc : wc.heap.size ≤ (w9.setCell ⟨bu, 2, none⟩ v9).heap.size := by have := g9.size; have := E8.size; simp; omega
          obtain ⟨wx, hwx⟩ : ∃ wx, w9.setCell ⟨bu, 2, none⟩ v9 = wx := ⟨_, rfl⟩
          rw [hwx] at o1c o2c BPc oDc Ec hszc ⊢
          clear nb hwx g9 o9 BP9 oL6 oD6 BP6 oY6 oD q2 j5f_0 j5f_1 j5f_2 j5q_0 j5q_1 j5q_2 j5m_0 j5m_1 j5a_0 j5a_1 j5a_2
          go_wp2_with fail
          go_roundw
          case rel => exact ⟨j + 1, v9, by omega, by go_num, BPc, o1c, o2c, by rw [HFL.out]; exact oDc, Ec, hszc⟩
          case measure => simp [RowKit.intOf]; omega
        refine AllReadyH.cons rfl (fun Kc hKc => ?_) AllReadyH.nil
        go_simp; go_at_call 118
        (with_reducible refine (rawHom_any fk fp fn tk tp tn hk ha _ y w7 HR.out HR2.out HRAW.out pA HXK.out).mono ?_); rintro e8 w8 ⟨v8, rfl, o8, h8⟩; rw [HXX.out] at o8; obtain ⟨a8, c8, rfl, _, _⟩ := o8.ints.val; have hpart := o8.ints; have E8 : Ext wr w8 := E7.trans h8; have q8 := E8.cell q2; have r8f_0 := E8.cell j5f_0; have r8f_1 := E8.cell j5f_1; have r8f_2 := E8.cell j5f_2; have r8q_0 := E8.cell j5q_0; have r8q_1 := E8.cell j5q_1; have r8q_2 := E8.cell j5q_2; have r8m_0 := E8.cell j5m_0; have r8m_1 := E8.cell j5m_1; have r8a_0 := E8.cell j5a_0; have r8a_1 := E8.cell j5a_1; have r8a_2 := E8.cell j5a_2
        (try go_simp)
        refine hKc.out _ _ ?_ (fun hHeld => ?_) <;> clear hKc Kc
        · (first | (with_reducible exact ⟨D0.cell j5f_0, D0.cell j5f_1, D0.cell j5f_2, D0.cell j5q_0, D0.cell j5q_1, D0.cell j5q_2, D0.cell j5m_0, D0.cell j5m_1, D0.cell j5a_0, D0.cell j5a_1, D0.cell j5a_2⟩) | (with_reducible exact ⟨r7f_0, r7f_1, r7f_2, r7q_0, r7q_1, r7q_2, r7m_0, r7m_1, r7a_0, r7a_1, r7a_2⟩) | (with_reducible exact ⟨r8f_0, r8f_1, r8f_2, r8q_0, r8q_1, r8q_2, r8m_0, r8m_1, r8a_0, r8a_1, r8a_2⟩) | (with_reducible exact ⟨r9f_0, r9f_1, r9f_2, r9q_0, r9q_1, r9q_2, r9m_0, r9m_1, r9a_0, r9a_1, r9a_2⟩) | (with_reducible exact ⟨grown_cell (b := bu) (grown_setCell (grown_refl _ _) _ _) hnbf r9f_0, grown_cell (b := bu) (grown_setCell (grown_refl _ _) _ _) hnbf r9f_1, grown_cell (b := bu) (grown_setCell (grown_refl _ _) _ _) hnbf r9f_2, grown_cell (b := bu) (grown_setCell (grown_refl _ _) _ _) hnbq r9q_0, grown_cell (b := bu) (grown_setCell (grown_refl _ _) _ _) hnbq r9q_1, grown_cell (b := bu) (grown_setCell (grown_refl _ _) _ _) hnbq r9q_2, grown_cell (b := bu) (grown_setCell (grown_refl _ _) _ _) hnbm r9m_0, grown_cell (b := bu) (grown_setCell (grown_refl _ _) _ _) hnbm r9m_1, grown_cell (b := bu) (grown_setCell (grown_refl _ _) _ _) hnba r9a_0, grown_cell (b := bu) (grown_setCell (grown_refl _ _) _ _) hnba r9a_1, grown_cell (b := bu) (grown_setCell (grown_refl _ _) _ _) hnba r9a_2⟩))
        refine wpAnyH_ready (rs := [1]) (by kernel_rfl) (by simp) ?_
        refine AllReadyH.cons rfl (fun Kc hKc => ?_) AllReadyH.nil
        go_simp
        refine hKc.out _ _ ?_ (fun hHeld => ?_) <;> clear hKc Kc
        · (first | (with_reducible exact ⟨D0.cell j5f_0, D0.cell j5f_1, D0.cell j5f_2, D0.cell j5q_0, D0.cell j5q_1, D0.cell j5q_2, D0.cell j5m_0, D0.cell j5m_1, D0.cell j5a_0, D0.cell j5a_1, D0.cell j5a_2⟩) | (with_reducible exact ⟨r7f_0, r7f_1, r7f_2, r7q_0, r7q_1, r7q_2, r7m_0, r7m_1, r7a_0, r7a_1, r7a_2⟩) | (with_reducible exact ⟨r8f_0, r8f_1, r8f_2, r8q_0, r8q_1, r8q_2, r8m_0, r8m_1, r8a_0, r8a_1, r8a_2⟩) | (with_reducible exact ⟨r9f_0, r9f_1, r9f_2, r9q_0, r9q_1, r9q_2, r9m_0, r9m_1, r9a_0, r9a_1, r9a_2⟩) | (with_reducible exact ⟨grown_cell (b := bu) (grown_setCell (grown_refl _ _) _ _) hnbf r9f_0, grown_cell (b := bu) (grown_setCell (grown_refl _ _) _ _) hnbf r9f_1, grown_cell (b := bu) (grown_setCell (grown_refl _ _) _ _) hnbf r9f_2, grown_cell (b := bu) (grown_setCell (grown_refl _ _) _ _) hnbq r9q_0, grown_cell (b := bu) (grown_setCell (grown_refl _ _) _ _) hnbq r9q_1, grown_cell (b := bu) (grown_setCell (grown_refl _ _) _ _) hnbq r9q_2, grown_cell (b := bu) (grown_setCell (grown_refl _ _) _ _) hnbm r9m_0, grown_cell (b := bu) (grown_setCell (grown_refl _ _) _ _) hnbm r9m_1, grown_cell (b := bu) (grown_setCell (grown_refl _ _) _ _) hnba r9a_0, grown_cell (b := bu) (grown_setCell (grown_refl _ _) _ _) hnba r9a_1, grown_cell (b := bu) (grown_setCell (grown_refl _ _) _ _) hnba r9a_2⟩))
        refine wpAnyH_ready (rs := [10]) (by kernel_rfl) (by simp) ?_
        refine AllReadyH.cons rfl (fun Kc hKc => ?_) AllReadyH.nil
        refine step_app w8 rfl _ _ 27 rfl (.slice av Y.length cv) (.slice a8 x.length c8) rfl rfl _ (run_app_ints _ w8 wc.heap.size _ _ Y x (oD.ext E8) hpart (by rw [HXL2.out]; omega) (by have := E8.size; omega)) ?_; rintro v9 w9 ⟨o9, g9, _⟩; obtain ⟨a9, c9, hv9, _, _⟩ := o9.ints.val; subst hv9; have BP9 := (BP6.ext E8).block (g9.block _ (by have := E8.size; have := BP6.lt; omega) (fun e => by have := NY.out _ e.symm; omega)); have z9 := BP9.free 2; have q9 := BP9.cell (j := 2) rfl; have u9 := BP9.lt; have E9 : Ext w1 w9 := (hE6.trans E8).only g9 (fun z hz => by have := NY.out z hz; omega); have r9f_0 := E9.cell kf_0; have r9f_1 := E9.cell kf_1; have r9f_2 := E9.cell kf_2; have r9q_0 := E9.cell kq_0; have r9q_1 := E9.cell kq_1; have r9q_2 := E9.cell kq_2; have r9m_0 := E9.cell km_0; have r9m_1 := E9.cell km_1; have r9a_0 := E9.cell ka_0; have r9a_1 := E9.cell ka_1; have r9a_2 := E9.cell ka_2
        refine hKc.out _ _ ?_ (fun hHeld => ?_) <;> clear hKc Kc
        · (first | (with_reducible exact ⟨D0.cell j5f_0, D0.cell j5f_1, D0.cell j5f_2, D0.cell j5q_0, D0.cell j5q_1, D0.cell j5q_2, D0.cell j5m_0, D0.cell j5m_1, D0.cell j5a_0, D0.cell j5a_1, D0.cell j5a_2⟩) | (with_reducible exact ⟨r7f_0, r7f_1, r7f_2, r7q_0, r7q_1, r7q_2, r7m_0, r7m_1, r7a_0, r7a_1, r7a_2⟩) | (with_reducible exact ⟨r8f_0, r8f_1, r8f_2, r8q_0, r8q_1, r8q_2, r8m_0, r8m_1, r8a_0, r8a_1, r8a_2⟩) | (with_reducible exact ⟨r9f_0, r9f_1, r9f_2, r9q_0, r9q_1, r9q_2, r9m_0, r9m_1, r9a_0, r9a_1, r9a_2⟩) | (with_reducible exact ⟨grown_cell (b := bu) (grown_setCell (grown_refl _ _) _ _) hnbf r9f_0, grown_cell (b := bu) (grown_setCell (grown_refl _ _) _ _) hnbf r9f_1, grown_cell (b := bu) (grown_setCell (grown_refl _ _) _ _) hnbf r9f_2, grown_cell (b := bu) (grown_setCell (grown_refl _ _) _ _) hnbq r9q_0, grown_cell (b := bu) (grown_setCell (grown_refl _ _) _ _) hnbq r9q_1, grown_cell (b := bu) (grown_setCell (grown_refl _ _) _ _) hnbq r9q_2, grown_cell (b := bu) (grown_setCell (grown_refl _ _) _ _) hnbm r9m_0, grown_cell (b := bu) (grown_setCell (grown_refl _ _) _ _) hnbm r9m_1, grown_cell (b := bu) (grown_setCell (grown_refl _ _) _ _) hnba r9a_0, grown_cell (b := bu) (grown_setCell (grown_refl _ _) _ _) hnba r9a_1, grown_cell (b := bu) (grown_setCell (grown_refl _ _) _ _) hnba r9a_2⟩))
        refine wpAnyH_take (i := 11) (v := ?_) rfl (by kernel_rfl) (by kernel_rfl) (by kernel_rfl) (fun _ _ _ h => h) (Or.inl ⟨by rfl, ?_⟩) (by assumption) ?_
        rotate_left
        · intro w hSw; (try dsimp only at hSw); go_simp; (try with_reducible rfl)
        (try go_simp)
        refine wpAnyH_ready (rs := [12]) (by kernel_rfl) (by simp) ?_
        refine AllReadyH.cons rfl (fun Kc hKc => ?_) AllReadyH.nil
        go_simp
        refine hKc.out _ _ ?_ (fun hHeld => ?_) <;> clear hKc Kc
        · (first | (with_reducible exact ⟨D0.cell j5f_0, D0.cell j5f_1, D0.cell j5f_2, D0.cell j5q_0, D0.cell j5q_1, D0.cell j5q_2, D0.cell j5m_0, D0.cell j5m_1, D0.cell j5a_0, D0.cell j5a_1, D0.cell j5a_2⟩) | (with_reducible exact ⟨r7f_0, r7f_1, r7f_2, r7q_0, r7q_1, r7q_2, r7m_0, r7m_1, r7a_0, r7a_1, r7a_2⟩) | (with_reducible exact ⟨r8f_0, r8f_1, r8f_2, r8q_0, r8q_1, r8q_2, r8m_0, r8m_1, r8a_0, r8a_1, r8a_2⟩) | (with_reducible exact ⟨r9f_0, r9f_1, r9f_2, r9q_0, r9q_1, r9q_2, r9m_0, r9m_1, r9a_0, r9a_1, r9a_2⟩) | (with_reducible exact ⟨grown_cell (b := bu) (grown_setCell (grown_refl _ _) _ _) hnbf r9f_0, grown_cell (b := bu) (grown_setCell (grown_refl _ _) _ _) hnbf r9f_1, grown_cell (b := bu) (grown_setCell (grown_refl _ _) _ _) hnbf r9f_2, grown_cell (b := bu) (grown_setCell (grown_refl _ _) _ _) hnbq r9q_0, grown_cell (b := bu) (grown_setCell (grown_refl _ _) _ _) hnbq r9q_1, grown_cell (b := bu) (grown_setCell (grown_refl _ _) _ _) hnbq r9q_2, grown_cell (b := bu) (grown_setCell (grown_refl _ _) _ _) hnbm r9m_0, grown_cell (b := bu) (grown_setCell (grown_refl _ _) _ _) hnbm r9m_1, grown_cell (b := bu) (grown_setCell (grown_refl _ _) _ _) hnba r9a_0, grown_cell (b := bu) (grown_setCell (grown_refl _ _) _ _) hnba r9a_1, grown_cell (b := bu) (grown_setCell (grown_refl _ _) _ _) hnba r9a_2⟩))
        refine wpAnyH_done (by kernel_rfl) ?_ _
        rw [List.length_append] at o9
        obtain ⟨v9, hvv9⟩ : ∃ v : Value, .slice a9 (Y.length + x.length) c9 = v := ⟨_, rfl⟩
        rw [hvv9] at o9 ⊢
        have nb : ∀ (v : Value) (l : List Int), OwnI wr w3.heap.size v l → (∀ q, v.ownBlock = some q → q < wc.heap.size ∧ q ≠ bu) → OwnI (w9.setCell ⟨bu, 2, none⟩ v9) w3.heap.size v l := fun v l h hq =>
          ((h.ext E8).only g9 (fun z hz e => by have := NY.out z e; have := hq z hz; omega)).setOther (fun z hz => by have := hq z hz; simp only []; omega) _
        have o1c := nb _ _ oL6 (fun z hz => ⟨NL.out z hz, (HST.out z hz).2⟩)
        have o2c := nb _ _ oD6 (fun z hz => ⟨ND.out z hz, HDT.out z hz⟩)
        have BPc := BP9.set 2 v9
        have oDc := o9.setBelow (p := ⟨bu, 2, none⟩) (by simp only []; omega) v9
        have Ec : Ext w1 (w9.setCell ⟨bu, 2, none⟩ v9) := ((hE6.trans E8).only g9 (fun z hz => by have := NY.out z hz; omega)).setAt (by have := HS13.out; omega) _ _
        have hszc : wc.heap.size ≤ (w9.setCell ⟨bu, 2, none⟩ v9).heap.size := by have := g9.size; have := E8.size; simp; omega
        obtain ⟨wx, hwx⟩ : ∃ wx, w9.setCell ⟨bu, 2, none⟩ v9 = wx := ⟨_, rfl⟩
        rw [hwx] at o1c o2c BPc oDc Ec hszc ⊢
        clear nb hwx g9 o9 BP9 oL6 oD6 BP6 oY6 oD q2 j5f_0 j5f_1 j5f_2 j5q_0 j5q_1 j5q_2 j5m_0 j5m_1 j5a_0 j5a_1 j5a_2
        go_wp2_with fail
        go_roundw
        case rel => exact ⟨j + 1, v9, by omega, by go_num, BPc, o1c, o2c, by rw [HFL.out]; exact oDc, Ec, hszc⟩
        case measure => simp [RowKit.intOf]; omega
      · skip
        have : j = P := by omega
        subst this
        have hall : xs.take xs.length = xs := List.take_length
        rw [HSl.out] at hall
        rw [hall] at oY6
        clear hall
        obtain ⟨Y, hY⟩ : ∃ Y, flat (xs.map (homEl H)) = Y := ⟨_, rfl⟩
        rw [hY] at oY6
        have HYE := Lib.hid hY; clear hY
        obtain ⟨av, cv, rfl, _, _⟩ := oY6.ints.val
        have NY : Hid (∀ q, (Value.slice av Y.length cv).ownBlock = some q → wc.heap.size ≤ q) := Lib.hid fun q hq => (oY6.block_lt hq).1
        have f0 := B5z.free 0
        have f1 := B5z.free 1
        have f2 := B5z.free 2
        have z0 := B5z.cell (j := 0) rfl
        have z1 := B5z.cell (j := 1) rfl
        have z2 := B5z.cell (j := 2) rfl
        have y0 := BP6.cell (j := 0) rfl
        have y1 := BP6.cell (j := 1) rfl
        have y2 := BP6.cell (j := 2) rfl
        have ly := BP6.lt
        have hlt3 : w.heap.size + 1 + 1 + 1 + 1 < w3.heap.size := by have := HS1.out; have := HS13.out; omega
        have hzc : w.heap.size + 1 + 1 + 1 + 1 ≠ bu := by omega
        have hzc2 : bu ≠ w.heap.size + 1 + 1 + 1 + 1 := hzc.symm
        have hlt4 : w.heap.size + 1 + 1 + 1 + 1 < wc.heap.size := by omega
        have HO1 := Lib.hid oL6; have HO2 := Lib.hid oD6; have HOY := Lib.hid oY6; clear oL6 oD6 oY6
        go_upto_region 8 with fail
        repeat go_step
        refine bodyPost_ret (v := .tuple #[.agg #[.slice s1 L.length s2, .slice t1 L.length t2, .slice av Y.length cv], .bool true]) (by simp [results, Try.results36, go_sem, *]) rfl ?_
        refine ⟨_, rfl, ⟨_, _, _, rfl, ?_, ?_, ?_, fun z hz => ⟨fun e => ?_, fun e => ?_⟩, fun z hz e => ?_⟩, (((h1.trans hE6).setAt (by omega) _ _).setAt (by omega) _ _).setAt (by omega) _ _⟩
        · exact (((HO1.out.setBelow hlt3 _).setBelow hlt3 _).setBelow hlt3 _).mono (by omega)
        · exact (((HO2.out.setBelow hlt3 _).setBelow hlt3 _).setBelow hlt3 _).mono (by omega)
        · rw [HYE.out]; exact (((HOY.out.setBelow hlt4 _).setBelow hlt4 _).setBelow hlt4 _).mono (by omega)
        · exact (HST.out z hz).1 e
        · have := NL.out z hz; have := NY.out z e; omega
        · have := ND.out z hz; have := NY.out z e; omega
end
end Go.Proofs.Ytpegckmagiaggaa
