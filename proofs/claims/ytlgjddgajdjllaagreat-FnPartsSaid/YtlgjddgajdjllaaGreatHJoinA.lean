/- joinAxes of the program. -/
import Derived.Test.YtlgjddgajdjllaaGreatHPermW
set_option linter.unusedSimpArgs false
set_option linter.unusedVariables false
namespace Go.Proofs.YtlgjddgajdjllaaGreat
open Go.RowKit
theorem not_find {L : List Int} {x : Int} (h : x ∉ L) : findL L x = -1 := findL_neg (hasL_not.2 h)
set_option maxRecDepth 100000 in
set_option maxHeartbeats 2000000 in
theorem joinAxes_any {dm : Int → Int} (a b X Y : List Int) (va vb : Value) (w : World) (hva : TenS w va a (a.map dm) X) (hvb : TenS w vb b (b.map dm) Y) (hla : a.length ≤ 12) (hlb : b.length ≤ 12) :
 Calls Tryz.prog 32 #[va, vb] w fun e w' => ∃ v u, e = .returned (.tuple #[v, u, .bool true]) ∧ OwnI w' w.heap.size v (joinL a b) ∧ OwnI w' w.heap.size u ((joinL a b).map dm) ∧ (∀ q, v.ownBlock = some q → u.ownBlock ≠ some q) ∧ Ext w w' := by
 have hva0 := hva
 have hvb0 := hvb
 obtain ⟨p1, n1, c1, p2, n2, c2, p3, n3, c3, rfl⟩ := hva.shape
 obtain ⟨_, _, _, hvv, hL, hD, hX⟩ := hva.val
 simp at hvv
 obtain ⟨rfl, rfl, rfl⟩ := hvv
 obtain ⟨_, _, e1, _, _⟩ := hL.val
 simp at e1
 obtain ⟨rfl, rfl, rfl⟩ := e1
 obtain ⟨_, _, e2, _, _⟩ := hD.val
 simp at e2
 obtain ⟨rfl, rfl, rfl⟩ := e2
 obtain ⟨u1, m1, d1, u2, m2, d2, u3, m3, d3, rfl⟩ := hvb.shape
 obtain ⟨_, _, _, hvv, gL, gD, gX⟩ := hvb.val
 simp at hvv
 obtain ⟨rfl, rfl, rfl⟩ := hvv
 obtain ⟨_, _, e1, _, _⟩ := gL.val
 simp at e1
 obtain ⟨rfl, rfl, rfl⟩ := e1
 obtain ⟨_, _, e2, _, _⟩ := gD.val
 simp at e2
 obtain ⟨rfl, rfl, rfl⟩ := e2
 have hjl := joinL_len a b
 have hmk := mkInts (joinL a b).length (by omega)
 generalize hW1 : (w.alloc (.cells #[.slice p1 a.length c1, .slice p2 a.length c2, .slice p3 n3 c3] 35)).alloc (.cells #[.slice u1 b.length d1, .slice u2 b.length d2, .slice u3 m3 d3] 35) = w1
 have h1 : Ext w w1 := by rw [← hW1]; exact xt
 have BA : Blk w1 w.heap.size 35 [.slice p1 a.length c1, .slice p2 a.length c2, .slice p3 n3 c3] := by rw [← hW1]; exact (Blk.new w #[_, _, _] 35).alloc _
 have BB : Blk w1 (w.heap.size + 1) 35 [.slice u1 b.length d1, .slice u2 b.length d2, .slice u3 m3 d3] := by rw [← hW1]; exact Blk.newB (c := #[_, _, _]) (by simp)
 have HS1 : Hid (w1.heap.size = w.heap.size + 2) := Lib.hid (by rw [← hW1]; simp)
 have HW := Lib.hid hW1; clear hW1
 have a0 := BA.cell (j := 0) rfl
 have b0 := BB.cell (j := 0) rfl
 have al := BA.lt
 have bl := BB.lt
 go_enter Tryz.func32, Tryz.ntmps32
 go_wp2_with fail
 rw [HW.out]
 go_wp2_with fail
 refine (joinLabels_any _ _ a b _ (hL.ext h1) (gL.ext h1) (by omega) (by omega)).mono ?_; rintro e2 w2 ⟨v2, rfl, o2, h2⟩
 obtain ⟨a2, k2, rfl, _, _⟩ := o2.ints.val
 have s2 := h2.size
 go_wp2_with fail
 generalize hW3 : w2.alloc (.cells (madeCells #[.int .i64 0] (joinL a b).length) 3) = w3
 have h3 : Ext w2 w3 := by rw [← hW3]; exact (Ext.refl _).alloc _
 have oD : OwnI w3 w1.heap.size (.slice (some ⟨w2.heap.size, 0, none⟩) (joinL a b).length (joinL a b).length) (List.replicate (joinL a b).length 0) := by rw [← hW3]; exact OwnI.zeros w2 _ _ _ rfl s2 (by omega)
 clear hW3
 have o3 := o2.ext h3
 have E3 : Ext w1 w3 := h2.trans h3
 have N2 : Hid (∀ q, (Value.slice a2 (joinL a b).length k2).ownBlock = some q → q < w2.heap.size) := Lib.hid fun q hq => (o2.block_lt hq).2
 clear o2
 go_loopw [23] (fun i wr => ∃ j : Nat, j ≤ (joinL a b).length ∧ i = .int .i64 j ∧ OwnI wr w1.heap.size (.slice a2 (joinL a b).length k2) (joinL a b) ∧ OwnI wr w1.heap.size (.slice (some ⟨w2.heap.size, 0, none⟩) (joinL a b).length (joinL a b).length) (mixM dm (fun _ => 0) (joinL a b) j) ∧ Ext w1 wr) (fun i wr => (joinL a b).length - (RowKit.intOf i).toNat)
 case atStart => exact ⟨0, Nat.zero_le _, rfl, o3, by rw [mixM_zero, List.map_const']; exact oD, E3⟩
 obtain ⟨j, hj, rfl, oL, oD, hE⟩ := hrel
 have BAr := BA.ext hE
 have BBr := BB.ext hE
 have i0 := BAr.cell (j := 0) rfl
 have i1 := BAr.cell (j := 1) rfl
 have i2 := BAr.cell (j := 2) rfl
 have j0 := BBr.cell (j := 0) rfl
 have j1 := BBr.cell (j := 1) rfl
 have j2 := BBr.cell (j := 2) rfl
 have al := BAr.lt
 have bl := BBr.lt
 by_cases hlt : j < (joinL a b).length
 · obtain ⟨bm, om, m, rfl, hcm, hm, _⟩ := oL.ints.get hlt
   obtain ⟨u, hu⟩ := mixM_get (f := dm) (g := fun _ => 0) hlt
   have hmem := mem_joinL.1 (List.mem_of_getElem? hm)
   have HMX := Lib.hid (mixM_step (g := fun _ => 0) (f := dm) hm)
   have HU := Lib.hid hu
   clear hm hu
   have D0 : Ext wr wr.drew := (Ext.refl _).drew
   have hTA : TenS wr.drew (.agg #[.slice p1 a.length c1, .slice p2 a.length c2, .slice p3 n3 c3]) a (a.map dm) X := hva0.ext ((h1.trans hE).trans D0)
   by_cases hma : m ∈ a
   · obtain ⟨ia, hfa, hia, _, hDa⟩ := map_get_find (dm := dm) hma
     obtain ⟨bD, oDD, z, rfl, hcz, hz, _⟩ := hD.get (i := ia) (by simpa using hia)
     obtain rfl : z = dm m := by rw [hDa] at hz; exact (Option.some.inj hz).symm
     have HF := Lib.hid hfa
     clear hfa hDa hz hmem
     by_cases hmb : m ∈ b
     · obtain ⟨ib, hfb, hib, _, hDb⟩ := map_get_find (dm := dm) hmb
       obtain ⟨bE, oE, z2, rfl, hcz2, hz2, _⟩ := gD.get (i := ib) (by simpa using hib)
       obtain rfl : z2 = dm m := by rw [hDb] at hz2; exact (Option.some.inj hz2).symm
       have HG := Lib.hid hfb
       clear hfb hDb hz2
       go_upto_region 6 with fail
       go_region_held3 (fun w' => w'.cell? ⟨w.heap.size, 0, none⟩ = some (.slice p1 a.length c1) ∧ w'.cell? ⟨w.heap.size, 1, none⟩ = some (.slice (some ⟨bD, oDD, none⟩) a.length c2) ∧ w'.cell? ⟨w.heap.size, 2, none⟩ = some (.slice p3 n3 c3) ∧ w'.cell? ⟨w.heap.size + 1, 0, none⟩ = some (.slice u1 b.length d1) ∧ w'.cell? ⟨w.heap.size + 1, 1, none⟩ = some (.slice (some ⟨bE, oE, none⟩) b.length d2) ∧ w'.cell? ⟨w.heap.size + 1, 2, none⟩ = some (.slice u3 m3 d3))
        (refine ⟨?_, ?_, ?_, ?_, ?_, ?_⟩ <;> first | assumption | exact ((Ext.refl _).drew).cell (by assumption))
        (first | (go_at_call 81; (with_reducible refine (axisOf_any _ a _ _ m wr.drew hTA).mono ?_); rintro e4 w4 ⟨rfl, h4⟩; rw [HF.out]; have E4 : Ext wr w4 := D0.trans h4; have r4_0 := E4.cell i0; have r4_1 := E4.cell i1; have r4_2 := E4.cell i2; have r4_3 := E4.cell j0; have r4_4 := E4.cell j1; have r4_5 := E4.cell j2) | (go_at_call 81; (with_reducible refine (axisOf_any _ b _ _ m w4 (hvb0.ext ((h1.trans hE).trans E4))).mono ?_); rintro e5 w5 ⟨rfl, h5⟩; rw [HG.out]; have E5 : Ext wr w5 := E4.trans h5; have r5_0 := E5.cell i0; have r5_1 := E5.cell i1; have r5_2 := E5.cell i2; have r5_3 := E5.cell j0; have r5_4 := E5.cell j1; have r5_5 := E5.cell j2))
       have al5 := (BAr.ext E5).lt
       have bl5 := (BBr.ext E5).lt
       have oD5 := oD.ext E5
       have oL5 := oL.ext E5
       obtain ⟨hcu, hfu⟩ := oD5.cell HU.out
       have hdl := (oD5.block_lt (k := w2.heap.size) rfl).2
       have hcz5 := (h1.trans (hE.trans E5)).cell hcz
       have hzl := World.block_lt_of_cell? _ _ hcz5
       have hcy5 := (h1.trans (hE.trans E5)).cell hcz2
       have hyl := World.block_lt_of_cell? _ _ hcy5
       have hset : ∀ q, OwnI ((w5.drewN q).setCell ⟨w2.heap.size, j, none⟩ (.int .i64 (dm m))) w1.heap.size (.slice (some ⟨w2.heap.size, 0, none⟩) (joinL a b).length (joinL a b).length) (mixM dm (fun _ => 0) (joinL a b) (j + 1)) := fun q => by
        have h := (oD5.ext ((Ext.refl _).drewN q)).set j (by rw [mixM_length]; exact hlt) (dm m)
        rwa [HMX.out] at h
       have HS := Lib.hid hset; clear hset
       have E15 : Ext w1 w5 := hE.trans E5
       have HO5 := Lib.hid oL5
       clear hcu
       obtain ⟨hcu, hfu⟩ := oD5.cell HU.out
       clear oD5 oL5 oD oL
       go_wp2_with fail
       go_quiet (fail)
       go_wp2_with fail
       go_roundw
       case rel => exact ⟨j + 1, by omega, by go_num, ((HO5.out.ext ((Ext.refl _).drewN _)).setOther (fun q hq => by have := N2.out q hq; first | omega | (simp; omega)) _), HS.out _, (E15.drewN _).setAt s2 _ _⟩
       case measure => simp [RowKit.intOf]; omega
     have HG : Hid (findL b m = -1) := Lib.hid (not_find hmb)
     go_upto_region 6 with fail
     go_region_held3 (fun w' => w'.cell? ⟨w.heap.size, 0, none⟩ = some (.slice p1 a.length c1) ∧ w'.cell? ⟨w.heap.size, 1, none⟩ = some (.slice (some ⟨bD, oDD, none⟩) a.length c2) ∧ w'.cell? ⟨w.heap.size, 2, none⟩ = some (.slice p3 n3 c3) ∧ w'.cell? ⟨w.heap.size + 1, 0, none⟩ = some (.slice u1 b.length d1) ∧ w'.cell? ⟨w.heap.size + 1, 1, none⟩ = some (.slice u2 b.length d2) ∧ w'.cell? ⟨w.heap.size + 1, 2, none⟩ = some (.slice u3 m3 d3))
      (refine ⟨?_, ?_, ?_, ?_, ?_, ?_⟩ <;> first | assumption | exact ((Ext.refl _).drew).cell (by assumption))
      (first | (go_at_call 81; (with_reducible refine (axisOf_any _ a _ _ m wr.drew hTA).mono ?_); rintro e4 w4 ⟨rfl, h4⟩; rw [HF.out]; have E4 : Ext wr w4 := D0.trans h4; have r4_0 := E4.cell i0; have r4_1 := E4.cell i1; have r4_2 := E4.cell i2; have r4_3 := E4.cell j0; have r4_4 := E4.cell j1; have r4_5 := E4.cell j2) | (go_at_call 81; (with_reducible refine (axisOf_any _ b _ _ m w4 (hvb0.ext ((h1.trans hE).trans E4))).mono ?_); rintro e5 w5 ⟨rfl, h5⟩; rw [HG.out]; have E5 : Ext wr w5 := E4.trans h5; have r5_0 := E5.cell i0; have r5_1 := E5.cell i1; have r5_2 := E5.cell i2; have r5_3 := E5.cell j0; have r5_4 := E5.cell j1; have r5_5 := E5.cell j2))
     have al5 := (BAr.ext E5).lt
     have bl5 := (BBr.ext E5).lt
     have oD5 := oD.ext E5
     have oL5 := oL.ext E5
     obtain ⟨hcu, hfu⟩ := oD5.cell HU.out
     have hdl := (oD5.block_lt (k := w2.heap.size) rfl).2
     have hcz5 := (h1.trans (hE.trans E5)).cell hcz
     have hzl := World.block_lt_of_cell? _ _ hcz5
     have hset : ∀ q, OwnI ((w5.drewN q).setCell ⟨w2.heap.size, j, none⟩ (.int .i64 (dm m))) w1.heap.size (.slice (some ⟨w2.heap.size, 0, none⟩) (joinL a b).length (joinL a b).length) (mixM dm (fun _ => 0) (joinL a b) (j + 1)) := fun q => by
      have h := (oD5.ext ((Ext.refl _).drewN q)).set j (by rw [mixM_length]; exact hlt) (dm m)
      rwa [HMX.out] at h
     have HS := Lib.hid hset; clear hset
     have E15 : Ext w1 w5 := hE.trans E5
     have HO5 := Lib.hid oL5
     clear hcu
     obtain ⟨hcu, hfu⟩ := oD5.cell HU.out
     clear oD5 oL5 oD oL
     go_wp2_with fail
     go_quiet (fail)
     go_wp2_with fail
     go_roundw
     case rel => exact ⟨j + 1, by omega, by go_num, ((HO5.out.ext ((Ext.refl _).drewN _)).setOther (fun q hq => by have := N2.out q hq; first | omega | (simp; omega)) _), HS.out _, (E15.drewN _).setAt s2 _ _⟩
     case measure => simp [RowKit.intOf]; omega
   have HF : Hid (findL a m = -1) := Lib.hid (not_find hma)
   have hmb : m ∈ b := hmem.resolve_left hma
   obtain ⟨ib, hfb, hib, _, hDb⟩ := map_get_find (dm := dm) hmb
   obtain ⟨bE, oE, z2, rfl, hcz2, hz2, _⟩ := gD.get (i := ib) (by simpa using hib)
   obtain rfl : z2 = dm m := by rw [hDb] at hz2; exact (Option.some.inj hz2).symm
   have HG := Lib.hid hfb
   clear hfb hDb hz2 hmem
   go_upto_region 6 with fail
   go_region_held3 (fun w' => w'.cell? ⟨w.heap.size, 0, none⟩ = some (.slice p1 a.length c1) ∧ w'.cell? ⟨w.heap.size, 1, none⟩ = some (.slice p2 a.length c2) ∧ w'.cell? ⟨w.heap.size, 2, none⟩ = some (.slice p3 n3 c3) ∧ w'.cell? ⟨w.heap.size + 1, 0, none⟩ = some (.slice u1 b.length d1) ∧ w'.cell? ⟨w.heap.size + 1, 1, none⟩ = some (.slice (some ⟨bE, oE, none⟩) b.length d2) ∧ w'.cell? ⟨w.heap.size + 1, 2, none⟩ = some (.slice u3 m3 d3))
    (refine ⟨?_, ?_, ?_, ?_, ?_, ?_⟩ <;> first | assumption | exact ((Ext.refl _).drew).cell (by assumption))
    (first | (go_at_call 81; (with_reducible refine (axisOf_any _ a _ _ m wr.drew hTA).mono ?_); rintro e4 w4 ⟨rfl, h4⟩; rw [HF.out]; have E4 : Ext wr w4 := D0.trans h4; have r4_0 := E4.cell i0; have r4_1 := E4.cell i1; have r4_2 := E4.cell i2; have r4_3 := E4.cell j0; have r4_4 := E4.cell j1; have r4_5 := E4.cell j2) | (go_at_call 81; (with_reducible refine (axisOf_any _ b _ _ m w4 (hvb0.ext ((h1.trans hE).trans E4))).mono ?_); rintro e5 w5 ⟨rfl, h5⟩; rw [HG.out]; have E5 : Ext wr w5 := E4.trans h5; have r5_0 := E5.cell i0; have r5_1 := E5.cell i1; have r5_2 := E5.cell i2; have r5_3 := E5.cell j0; have r5_4 := E5.cell j1; have r5_5 := E5.cell j2))
   have al5 := (BAr.ext E5).lt
   have bl5 := (BBr.ext E5).lt
   have oD5 := oD.ext E5
   have oL5 := oL.ext E5
   obtain ⟨hcu, hfu⟩ := oD5.cell HU.out
   have hdl := (oD5.block_lt (k := w2.heap.size) rfl).2
   have hcy5 := (h1.trans (hE.trans E5)).cell hcz2
   have hyl := World.block_lt_of_cell? _ _ hcy5
   have hset : ∀ q, OwnI ((w5.drewN q).setCell ⟨w2.heap.size, j, none⟩ (.int .i64 (dm m))) w1.heap.size (.slice (some ⟨w2.heap.size, 0, none⟩) (joinL a b).length (joinL a b).length) (mixM dm (fun _ => 0) (joinL a b) (j + 1)) := fun q => by
    have h := (oD5.ext ((Ext.refl _).drewN q)).set j (by rw [mixM_length]; exact hlt) (dm m)
    rwa [HMX.out] at h
   have HS := Lib.hid hset; clear hset
   have E15 : Ext w1 w5 := hE.trans E5
   have HO5 := Lib.hid oL5
   clear hcu
   obtain ⟨hcu, hfu⟩ := oD5.cell HU.out
   clear oD5 oL5 oD oL
   go_wp2_with fail
   go_quiet (fail)
   go_wp2_with fail
   go_roundw
   case rel => exact ⟨j + 1, by omega, by go_num, ((HO5.out.ext ((Ext.refl _).drewN _)).setOther (fun q hq => by have := N2.out q hq; first | omega | (simp; omega)) _), HS.out _, (E15.drewN _).setAt s2 _ _⟩
   case measure => simp [RowKit.intOf]; omega
 have : j = (joinL a b).length := by omega
 subst this
 rw [mixM_all] at oD
 have HO := Lib.hid oD; have HOL := Lib.hid oL; clear oD oL
 go_wp2
 go_ret3
 exact ⟨_, _, rfl, HOL.out.mono (by have := HS1.out; omega), HO.out.mono (by have := HS1.out; omega), fun q hq e => by have := N2.out q hq; simp [Value.ownBlock] at e; omega, h1.trans hE⟩
end Go.Proofs.YtlgjddgajdjllaaGreat
