/- Products of polynomials: mulCoefficients of the program. -/
import Derived.Test.YtlmidcclcnehnaaMuls
import Derived.BigFrame
namespace Go.Proofs.Ytlmidcclcnehnaa
open Go.RowKit
set_option linter.unusedSimpArgs false
set_option linter.unusedVariables false

set_option maxRecDepth 100000 in
set_option maxHeartbeats 2000000 in
theorem mulCo_7 (p n : Int) (b off cap : Nat) (c : List Value) (vx vy : Value) (x y z : List Int) (w : World) (hP : Part w b off c z) (hvx : IntS w vx x) (hvy : IntS w vy y) (hnx : vx.ownBlock ≠ some b) (hny : vy.ownBlock ≠ some b)
    (hz0 : 0 < z.length) (hx : Under p x) (hy : Under p y) (hp : 1 ≤ p) (hp2 : p ≤ 1048576) (hl64 : z.length ≤ 1048576) (hxl : x.length ≤ 6) (hyl : y.length ≤ 6) :
    Calls Try.prog 123 #[ringV 7 p n, .slice (some ⟨b, off, none⟩) z.length cap, vx, vy] w fun e w' =>
      e = .returned (.tuple #[]) ∧ Blk w' b 3 (splice c off (ints (mulRows false p y (List.replicate z.length 0) 0 x))) ∧ w.grownBy w' (some b) := by
  obtain ⟨ax, capx, rfl, hc1, hc2⟩ := hvx.val
  obtain ⟨ay, capy, rfl, hc3, hc4⟩ := hvy.val
  have hb := hP.blk.lt
  have hcl := hP.len
  obtain ⟨m, hm⟩ : ∃ m, z.length = m := ⟨_, rfl⟩
  rw [hm]
  have hcl2 : off + m ≤ c.length := by omega
  have hm64 : m ≤ 1048576 := by omega
  have hz : ∀ (w : World), (∀ j, j < m → (w.cell? ⟨b, off + j, none⟩).isSome = true) → (∀ j, j < m → w.frozen? ⟨b, off + j, none⟩ = false) → ∀ ty, (Builtin.clear_ #[24] ty #[.slice (some ⟨b, off, none⟩) m cap]).run Try.prog w = .ok (.tuple #[]) (w.setCells b off (List.replicate m (.int .i64 0))) :=
    fun w h1 h2 ty => Lib.run_clear_slice w 24 3 ty (.int .i64 0) Try.underlying24 zeroI rfl rfl b off m cap (by omega) h1 h2
  have hB1 : Blk (w.alloc (.cells #[.int .i64 7, .int .i64 p, .int .i64 n] 28)) b 3 c := hP.blk.ext (by repeat' (first | (with_reducible exact Ext.refl _) | (with_reducible assumption) | (with_reducible apply Ext.alloc) | (with_reducible apply Ext.drew) | (with_reducible apply Ext.drewN) | (refine Ext.setAt ?_ (by omega) _ _) | (refine Ext.trans ?_ (by assumption))))
  have hcl_ := hz _ (fun j hj => by rw [hB1.cell (List.getElem?_eq_getElem (by omega))]; rfl) (fun j _ => hB1.free _)
  clear hz
  have hS := hB1.sets (List.replicate m (.int .i64 0)) off (by simpa using hcl2)
  rw [← ints_replicate] at hS
  obtain ⟨w1, hw1⟩ : ∃ w1, World.setCells (w.alloc (.cells #[.int .i64 7, .int .i64 p, .int .i64 n] 28)) b off (List.replicate m (.int .i64 0)) = w1 := ⟨_, rfl⟩
  have hG1 : (w.alloc (.cells #[.int .i64 7, .int .i64 p, .int .i64 n] 28)).grownBy w1 (some b) := by rw [← hw1]; exact grown_sets _ (grown_refl _ _) _
  have hs1 : w1.heap.size = w.heap.size + 1 := by rw [← hw1, size_sets]; simp
  rw [ints_replicate, hw1, ← ints_replicate] at hS
  simp only [hw1] at hcl_
  have hP1 : Part w1 b off (splice c off (ints (List.replicate m 0))) (List.replicate m 0) := Part.of hS (by simpa using hcl2)
  clear hS hB1 hw1
  have HX := Lib.hid hx; clear hx
  have HY := Lib.hid hy; clear hy
  have HM := Lib.hid hm; clear hm
  go_enter Try.func123, Try.ntmps123
  go_wp2_with (simp only [hcl_])
  clear hcl_
  go_loopw [15] (fun i wr => ∃ (i' : Nat) (acc : List Int), i' ≤ x.length ∧ i = .int .i64 i' ∧ acc.length = m ∧ Under p acc ∧ Part wr b off (splice c off (ints acc)) acc ∧
      mulRows false p y acc i' (x.drop i') = mulRows false p y (List.replicate m 0) 0 x ∧
      (w.alloc (.cells #[.int .i64 7, .int .i64 p, .int .i64 n] 28)).grownBy wr (some b)) (fun i _ => x.length - (intOf i).toNat)
  case atStart => exact ⟨0, _, Nat.zero_le _, rfl, by simp, under_zeros _ (by omega), hP1, rfl, hG1⟩
  case round =>
    obtain ⟨i', acc, hi, rfl, hla, hua, hPa, hE, hG⟩ := hrel
    by_cases hlt : i' < x.length
    · obtain ⟨a, ha⟩ : ∃ a, x[i']? = some a := ⟨_, List.getElem?_eq_getElem hlt⟩
      have hE2 : mulRows false p y (mulRow false p i' a acc 0 y) (i' + 1) (x.drop (i' + 1)) = mulRows false p y (List.replicate m 0) 0 x := by rw [← hE, drop_at ha]; rfl
      clear hE
      have HE := Lib.hid hE2; clear hE2
      have HU := Lib.hid hua; clear hua
      have HA := Lib.hid ha; clear ha
      go_wp2
      go_loopw [20] (fun i wr => ∃ (j : Nat) (acc' : List Int), j ≤ y.length ∧ i = .int .i64 j ∧ acc'.length = m ∧ Under p acc' ∧ Part wr b off (splice c off (ints acc')) acc' ∧
          mulRow false p i' a acc' j (y.drop j) = mulRow false p i' a acc 0 y ∧
          (w.alloc (.cells #[.int .i64 7, .int .i64 p, .int .i64 n] 28)).grownBy wr (some b)) (fun i _ => y.length - (intOf i).toNat)
      case atStart => exact ⟨0, acc, Nat.zero_le _, rfl, hla, HU.out, hPa, rfl, hG⟩
      case round =>
        obtain ⟨j, acc2, hj, rfl, hla2, hua2, hPa2, hE3, hG2⟩ := hrel
        have g1 : wr.cell? ⟨w.heap.size, 1, none⟩ = some (.int .i64 p) := grown_cell hG2 (by omega) (by simp)
        have g0 : wr.cell? ⟨w.heap.size, 0, none⟩ = some (.int .i64 7) := grown_cell hG2 (by omega) (by simp)
        by_cases hlt2 : j < y.length
        · obtain ⟨b1, off1, a', rfl, hcx, hxi, _⟩ := hvx.get (i := i') hlt
          obtain ⟨b2, off2, b', rfl, hcy, hyj, _⟩ := hvy.get (i := j) hlt2
          obtain rfl : a' = a := by have := HA.out; rw [hxi] at this; injection this
          have hne1 : b1 ≠ b := by simpa [Value.ownBlock] using hnx
          have hne2 : b2 ≠ b := by simpa [Value.ownBlock] using hny
          have hcx' : wr.cell? ⟨b1, off1 + i', none⟩ = some (.int .i64 a') := grown_cell hG2 hne1 ((Ext.alloc (Ext.refl w) _).cell hcx)
          have hcy' : wr.cell? ⟨b2, off2 + j, none⟩ = some (.int .i64 b') := grown_cell hG2 hne2 ((Ext.alloc (Ext.refl w) _).cell hcy)
          obtain ⟨a0, a1⟩ := HX.out a' (List.mem_of_getElem? hxi)
          obtain ⟨b0, b1'⟩ := HY.out b' (List.mem_of_getElem? hyj)
          obtain ⟨p0, p1⟩ := prod_bound a0 b0 (show a' ≤ 1048576 by omega) (show b' ≤ 1048576 by omega)
          obtain ⟨r0, r1⟩ := mod_bound (a' * b') hp
          have hE4 : mulRow false p i' a' (put1 false p acc2 (i' + j) (a' * b')) (j + 1) (y.drop (j + 1)) = mulRow false p i' a' acc 0 y := by rw [← hE3, drop_at hyj]; rfl
          clear hE3
          have HE4 := Lib.hid hE4; clear hE4
          have hput := under_put false hua2 (i' + j) (a' * b') hp
          have HU2 := Lib.hid hput; clear hput
          have l0 := World.block_lt_of_cell? wr _ g0
          have l1 := World.block_lt_of_cell? wr _ hcx'
          have l2 := World.block_lt_of_cell? wr _ hcy'
          by_cases hk : i' + j < m
          · obtain ⟨o, ho⟩ : ∃ o, acc2[i' + j]? = some o := ⟨_, List.getElem?_eq_getElem (by omega)⟩
            obtain ⟨o0, o1⟩ := hua2 o (List.mem_of_getElem? ho)
            obtain ⟨hco, hfo⟩ := hPa2.cell ho
            have hpt : put1 false p acc2 (i' + j) (a' * b') = acc2.set (i' + j) ((o + a' * b') % p) := put1_in (by omega) ho
            have HPT := Lib.hid hpt; clear hpt
            have hset := hPa2.set (i := i' + j) (by omega) ((o + a' * b') % p)
            have hsets := hPa2.set_splice (i := i' + j) (by omega) ((o + a' * b') % p)
            rw [hsets, splice_splice (by rw [ints_length, hla2]; exact hcl2) (by simp [ints_length]), ← HPT.out] at hset
            have HS := Lib.hid hset; clear hset hsets ho hua2 hxi hyj hcx hcy
            go_wp2
            go_region
            go_wp2
            go_region
            go_wp2
            go_roundw
            case rel => exact ⟨j + 1, _, by omega, by go_num, (put1_length _ _ _ _ _).trans hla2, HU2.out, HS.out.ext (by repeat' (first | (with_reducible exact Ext.refl _) | (with_reducible assumption) | (with_reducible apply Ext.alloc) | (with_reducible apply Ext.drew) | (with_reducible apply Ext.drewN) | (refine Ext.setAt ?_ (by omega) _ _) | (refine Ext.trans ?_ (by assumption)))), HE4.out, (by repeat' (first | (with_reducible exact grown_refl _ _) | (with_reducible assumption) | (with_reducible apply grown_alloc) | (with_reducible apply grown_drew) | (with_reducible apply grown_drewN) | (with_reducible refine grown_setCell ?_ _ _) | (refine grownBy_trans ?_ (by assumption))))⟩
            case measure => simp [intOf]; omega
          · have hpt : put1 false p acc2 (i' + j) (a' * b') = acc2 := put1_out (by omega)
            have HPT := Lib.hid hpt; clear hpt hua2 hxi hyj hcx hcy
            go_wp2
            go_region
            go_wp2
            go_roundw
            case rel => exact ⟨j + 1, _, by omega, by go_num, (put1_length _ _ _ _ _).trans hla2, HU2.out, by rw [HPT.out]; exact hPa2.ext (by repeat' (first | (with_reducible exact Ext.refl _) | (with_reducible assumption) | (with_reducible apply Ext.alloc) | (with_reducible apply Ext.drew) | (with_reducible apply Ext.drewN) | (refine Ext.setAt ?_ (by omega) _ _) | (refine Ext.trans ?_ (by assumption)))), HE4.out, (by repeat' (first | (with_reducible exact grown_refl _ _) | (with_reducible assumption) | (with_reducible apply grown_alloc) | (with_reducible apply grown_drew) | (with_reducible apply grown_drewN) | (with_reducible refine grown_setCell ?_ _ _) | (refine grownBy_trans ?_ (by assumption))))⟩
            case measure => simp [intOf]; omega
        · have : j = y.length := by omega
          subst this
          have hend : acc2 = mulRow false p i' a acc 0 y := by simpa [mulRow] using hE3
          subst hend
          have HU3 := Lib.hid hua2; clear hua2 hE3
          go_wp2
          go_roundw
          case rel => exact ⟨i' + 1, _, by omega, by go_num, hla2, HU3.out, hPa2.ext (by repeat' (first | (with_reducible exact Ext.refl _) | (with_reducible assumption) | (with_reducible apply Ext.alloc) | (with_reducible apply Ext.drew) | (with_reducible apply Ext.drewN) | (refine Ext.setAt ?_ (by omega) _ _) | (refine Ext.trans ?_ (by assumption)))), HE.out, (by repeat' (first | (with_reducible exact grown_refl _ _) | (with_reducible assumption) | (with_reducible apply grown_alloc) | (with_reducible apply grown_drew) | (with_reducible apply grown_drewN) | (with_reducible refine grown_setCell ?_ _ _) | (refine grownBy_trans ?_ (by assumption))))⟩
          case measure => simp [intOf]; omega
    · have : i' = x.length := by omega
      subst this
      have hend : acc = mulRows false p y (List.replicate m 0) 0 x := by simpa [mulRows] using hE
      subst hend
      clear hua hE
      go_wp2
      go_end0
      exact ⟨rfl, hPa.blk, grownBy_trans (grown_alloc (grown_refl w (some b)) _) hG⟩

set_option maxRecDepth 100000 in
set_option maxHeartbeats 2000000 in
theorem mulCo_8 (p n : Int) (b off cap : Nat) (c : List Value) (vx vy : Value) (x y z : List Int) (w : World) (hP : Part w b off c z) (hvx : IntS w vx x) (hvy : IntS w vy y) (hnx : vx.ownBlock ≠ some b) (hny : vy.ownBlock ≠ some b)
    (hz0 : 0 < z.length) (hx : Under p x) (hy : Under p y) (hp : 1 ≤ p) (hp2 : p ≤ 1048576) (hl64 : z.length ≤ 1048576) (hxl : x.length ≤ 6) (hyl : y.length ≤ 6) (hx4 : x.length ≤ 4) (hy4 : y.length ≤ 4) (hz4 : z.length = 4) :
    Calls Try.prog 123 #[ringV 8 p n, .slice (some ⟨b, off, none⟩) z.length cap, vx, vy] w fun e w' =>
      e = .returned (.tuple #[]) ∧ Blk w' b 3 (splice c off (ints (mulRows true p y (List.replicate z.length 0) 0 x))) ∧ w.grownBy w' (some b) := by
  obtain ⟨ax, capx, rfl, hc1, hc2⟩ := hvx.val
  obtain ⟨ay, capy, rfl, hc3, hc4⟩ := hvy.val
  have hb := hP.blk.lt
  have hcl := hP.len
  obtain ⟨m, hm⟩ : ∃ m, z.length = m := ⟨_, rfl⟩
  rw [hm]
  have hcl2 : off + m ≤ c.length := by omega
  have hm64 : m ≤ 1048576 := by omega
  have HM4 := Lib.hid (show m = 4 by omega); clear hz4
  have hz : ∀ (w : World), (∀ j, j < m → (w.cell? ⟨b, off + j, none⟩).isSome = true) → (∀ j, j < m → w.frozen? ⟨b, off + j, none⟩ = false) → ∀ ty, (Builtin.clear_ #[24] ty #[.slice (some ⟨b, off, none⟩) m cap]).run Try.prog w = .ok (.tuple #[]) (w.setCells b off (List.replicate m (.int .i64 0))) :=
    fun w h1 h2 ty => Lib.run_clear_slice w 24 3 ty (.int .i64 0) Try.underlying24 zeroI rfl rfl b off m cap (by omega) h1 h2
  have hB1 : Blk (w.alloc (.cells #[.int .i64 8, .int .i64 p, .int .i64 n] 28)) b 3 c := hP.blk.ext (by repeat' (first | (with_reducible exact Ext.refl _) | (with_reducible assumption) | (with_reducible apply Ext.alloc) | (with_reducible apply Ext.drew) | (with_reducible apply Ext.drewN) | (refine Ext.setAt ?_ (by omega) _ _) | (refine Ext.trans ?_ (by assumption))))
  have hcl_ := hz _ (fun j hj => by rw [hB1.cell (List.getElem?_eq_getElem (by omega))]; rfl) (fun j _ => hB1.free _)
  clear hz
  have hS := hB1.sets (List.replicate m (.int .i64 0)) off (by simpa using hcl2)
  rw [← ints_replicate] at hS
  obtain ⟨w1, hw1⟩ : ∃ w1, World.setCells (w.alloc (.cells #[.int .i64 8, .int .i64 p, .int .i64 n] 28)) b off (List.replicate m (.int .i64 0)) = w1 := ⟨_, rfl⟩
  have hG1 : (w.alloc (.cells #[.int .i64 8, .int .i64 p, .int .i64 n] 28)).grownBy w1 (some b) := by rw [← hw1]; exact grown_sets _ (grown_refl _ _) _
  have hs1 : w1.heap.size = w.heap.size + 1 := by rw [← hw1, size_sets]; simp
  rw [ints_replicate, hw1, ← ints_replicate] at hS
  simp only [hw1] at hcl_
  have hP1 : Part w1 b off (splice c off (ints (List.replicate m 0))) (List.replicate m 0) := Part.of hS (by simpa using hcl2)
  clear hS hB1 hw1
  have HX := Lib.hid hx; clear hx
  have HY := Lib.hid hy; clear hy
  have HM := Lib.hid hm; clear hm
  go_enter Try.func123, Try.ntmps123
  go_wp2_with (simp only [hcl_])
  clear hcl_
  go_loopw [15] (fun i wr => ∃ (i' : Nat) (acc : List Int), i' ≤ x.length ∧ i = .int .i64 i' ∧ acc.length = m ∧ Under p acc ∧ Part wr b off (splice c off (ints acc)) acc ∧
      mulRows true p y acc i' (x.drop i') = mulRows true p y (List.replicate m 0) 0 x ∧
      (w.alloc (.cells #[.int .i64 8, .int .i64 p, .int .i64 n] 28)).grownBy wr (some b)) (fun i _ => x.length - (intOf i).toNat)
  case atStart => exact ⟨0, _, Nat.zero_le _, rfl, by simp, under_zeros _ (by omega), hP1, rfl, hG1⟩
  case round =>
    obtain ⟨i', acc, hi, rfl, hla, hua, hPa, hE, hG⟩ := hrel
    by_cases hlt : i' < x.length
    · obtain ⟨a, ha⟩ : ∃ a, x[i']? = some a := ⟨_, List.getElem?_eq_getElem hlt⟩
      have hE2 : mulRows true p y (mulRow true p i' a acc 0 y) (i' + 1) (x.drop (i' + 1)) = mulRows true p y (List.replicate m 0) 0 x := by rw [← hE, drop_at ha]; rfl
      clear hE
      have HE := Lib.hid hE2; clear hE2
      have HU := Lib.hid hua; clear hua
      have HA := Lib.hid ha; clear ha
      go_wp2
      go_loopw [20] (fun i wr => ∃ (j : Nat) (acc' : List Int), j ≤ y.length ∧ i = .int .i64 j ∧ acc'.length = m ∧ Under p acc' ∧ Part wr b off (splice c off (ints acc')) acc' ∧
          mulRow true p i' a acc' j (y.drop j) = mulRow true p i' a acc 0 y ∧
          (w.alloc (.cells #[.int .i64 8, .int .i64 p, .int .i64 n] 28)).grownBy wr (some b)) (fun i _ => y.length - (intOf i).toNat)
      case atStart => exact ⟨0, acc, Nat.zero_le _, rfl, hla, HU.out, hPa, rfl, hG⟩
      case round =>
        obtain ⟨j, acc2, hj, rfl, hla2, hua2, hPa2, hE3, hG2⟩ := hrel
        have g1 : wr.cell? ⟨w.heap.size, 1, none⟩ = some (.int .i64 p) := grown_cell hG2 (by omega) (by simp)
        have g0 : wr.cell? ⟨w.heap.size, 0, none⟩ = some (.int .i64 8) := grown_cell hG2 (by omega) (by simp)
        by_cases hlt2 : j < y.length
        · obtain ⟨b1, off1, a', rfl, hcx, hxi, _⟩ := hvx.get (i := i') hlt
          obtain ⟨b2, off2, b', rfl, hcy, hyj, _⟩ := hvy.get (i := j) hlt2
          obtain rfl : a' = a := by have := HA.out; rw [hxi] at this; injection this
          have hne1 : b1 ≠ b := by simpa [Value.ownBlock] using hnx
          have hne2 : b2 ≠ b := by simpa [Value.ownBlock] using hny
          have hcx' : wr.cell? ⟨b1, off1 + i', none⟩ = some (.int .i64 a') := grown_cell hG2 hne1 ((Ext.alloc (Ext.refl w) _).cell hcx)
          have hcy' : wr.cell? ⟨b2, off2 + j, none⟩ = some (.int .i64 b') := grown_cell hG2 hne2 ((Ext.alloc (Ext.refl w) _).cell hcy)
          obtain ⟨a0, a1⟩ := HX.out a' (List.mem_of_getElem? hxi)
          obtain ⟨b0, b1'⟩ := HY.out b' (List.mem_of_getElem? hyj)
          obtain ⟨p0, p1⟩ := prod_bound a0 b0 (show a' ≤ 1048576 by omega) (show b' ≤ 1048576 by omega)
          obtain ⟨r0, r1⟩ := mod_bound (a' * b') hp
          have hE4 : mulRow true p i' a' (put1 true p acc2 (i' + j) (a' * b')) (j + 1) (y.drop (j + 1)) = mulRow true p i' a' acc 0 y := by rw [← hE3, drop_at hyj]; rfl
          clear hE3
          have HE4 := Lib.hid hE4; clear hE4
          have hput := under_put true hua2 (i' + j) (a' * b') hp
          have HU2 := Lib.hid hput; clear hput
          have l0 := World.block_lt_of_cell? wr _ g0
          have l1 := World.block_lt_of_cell? wr _ hcx'
          have l2 := World.block_lt_of_cell? wr _ hcy'
          by_cases hk : i' + j < m
          · obtain ⟨o, ho⟩ : ∃ o, acc2[i' + j]? = some o := ⟨_, List.getElem?_eq_getElem (by omega)⟩
            obtain ⟨o0, o1⟩ := hua2 o (List.mem_of_getElem? ho)
            obtain ⟨hco, hfo⟩ := hPa2.cell ho
            have hpt : put1 true p acc2 (i' + j) (a' * b') = acc2.set (i' + j) ((o + a' * b') % p) := put1_in (by omega) ho
            have HPT := Lib.hid hpt; clear hpt
            have hset := hPa2.set (i := i' + j) (by omega) ((o + a' * b') % p)
            have hsets := hPa2.set_splice (i := i' + j) (by omega) ((o + a' * b') % p)
            rw [hsets, splice_splice (by rw [ints_length, hla2]; exact hcl2) (by simp [ints_length]), ← HPT.out] at hset
            have HS := Lib.hid hset; clear hset hsets ho hua2 hxi hyj hcx hcy
            go_wp2
            go_region
            go_wp2
            go_region
            go_wp2
            go_roundw
            case rel => exact ⟨j + 1, _, by omega, by go_num, (put1_length _ _ _ _ _).trans hla2, HU2.out, HS.out.ext (by repeat' (first | (with_reducible exact Ext.refl _) | (with_reducible assumption) | (with_reducible apply Ext.alloc) | (with_reducible apply Ext.drew) | (with_reducible apply Ext.drewN) | (refine Ext.setAt ?_ (by omega) _ _) | (refine Ext.trans ?_ (by assumption)))), HE4.out, (by repeat' (first | (with_reducible exact grown_refl _ _) | (with_reducible assumption) | (with_reducible apply grown_alloc) | (with_reducible apply grown_drew) | (with_reducible apply grown_drewN) | (with_reducible refine grown_setCell ?_ _ _) | (refine grownBy_trans ?_ (by assumption))))⟩
            case measure => simp [intOf]; omega
          · have hk4 : 4 ≤ i' + j := by have := HM4.out; omega
            obtain ⟨o, ho⟩ : ∃ o, acc2[i' + j - 4]? = some o := ⟨_, List.getElem?_eq_getElem (by have := HM4.out; omega)⟩
            obtain ⟨o0, o1⟩ := hua2 o (List.mem_of_getElem? ho)
            obtain ⟨hco, hfo⟩ := hPa2.cell ho
            have hpt : put1 true p acc2 (i' + j) (a' * b') = acc2.set (i' + j - 4) ((o - a' * b') % p) := put1_over (by omega) ho
            have HPT := Lib.hid hpt; clear hpt
            have hset := hPa2.set (i := i' + j - 4) (by have := HM4.out; omega) ((o - a' * b') % p)
            have hsets := hPa2.set_splice (i := i' + j - 4) (by have := HM4.out; omega) ((o - a' * b') % p)
            rw [hsets, splice_splice (by rw [ints_length, hla2]; exact hcl2) (by simp [ints_length]), ← HPT.out] at hset
            have HS := Lib.hid hset; clear hset hsets ho hua2 hxi hyj hcx hcy
            have hk5 : i' + j - 4 < m := by have := HM4.out; omega
            have hcast : ((i' : Int) + (j : Int) - 4).toNat = i' + j - 4 := by omega
            go_wp2
            go_region
            go_wp2
            go_region
            go_wp2
            have he : (o + p - a' * b') % p = (o - a' * b') % p := by rw [show o + p - a' * b' = o - a' * b' + p by omega, Int.add_emod_right]
            go_roundw
            case rel => exact ⟨j + 1, _, by omega, by go_num, (put1_length _ _ _ _ _).trans hla2, HU2.out, by rw [he]; exact HS.out.ext (by repeat' (first | (with_reducible exact Ext.refl _) | (with_reducible assumption) | (with_reducible apply Ext.alloc) | (with_reducible apply Ext.drew) | (with_reducible apply Ext.drewN) | (refine Ext.setAt ?_ (by omega) _ _) | (refine Ext.trans ?_ (by assumption)))), HE4.out, (by repeat' (first | (with_reducible exact grown_refl _ _) | (with_reducible assumption) | (with_reducible apply grown_alloc) | (with_reducible apply grown_drew) | (with_reducible apply grown_drewN) | (with_reducible refine grown_setCell ?_ _ _) | (refine grownBy_trans ?_ (by assumption))))⟩
            case measure => simp [intOf]; omega
        · have : j = y.length := by omega
          subst this
          have hend : acc2 = mulRow true p i' a acc 0 y := by simpa [mulRow] using hE3
          subst hend
          have HU3 := Lib.hid hua2; clear hua2 hE3
          go_wp2
          go_roundw
          case rel => exact ⟨i' + 1, _, by omega, by go_num, hla2, HU3.out, hPa2.ext (by repeat' (first | (with_reducible exact Ext.refl _) | (with_reducible assumption) | (with_reducible apply Ext.alloc) | (with_reducible apply Ext.drew) | (with_reducible apply Ext.drewN) | (refine Ext.setAt ?_ (by omega) _ _) | (refine Ext.trans ?_ (by assumption)))), HE.out, (by repeat' (first | (with_reducible exact grown_refl _ _) | (with_reducible assumption) | (with_reducible apply grown_alloc) | (with_reducible apply grown_drew) | (with_reducible apply grown_drewN) | (with_reducible refine grown_setCell ?_ _ _) | (refine grownBy_trans ?_ (by assumption))))⟩
          case measure => simp [intOf]; omega
    · have : i' = x.length := by omega
      subst this
      have hend : acc = mulRows true p y (List.replicate m 0) 0 x := by simpa [mulRows] using hE
      subst hend
      clear hua hE
      go_wp2
      go_end0
      exact ⟨rfl, hPa.blk, grownBy_trans (grown_alloc (grown_refl w (some b)) _) hG⟩
end Go.Proofs.Ytlmidcclcnehnaa
