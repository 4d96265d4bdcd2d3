/- Products of elements: l02Mul of the reference. -/
import Derived.Test.YtlgjddgajdjllaaGreatHAddsS
set_option linter.unusedSimpArgs false
set_option linter.unusedVariables false
set_option maxRecDepth 100000
set_option maxHeartbeats 2000000
namespace Go.Proofs.YtlgjddgajdjllaaGreat
open Go.RowKit
theorem l02Mul_7 (p n : Int) (vx vy : Value) (x y : List Int) (w : World) (hvx : IntS w vx x) (hvy : IntS w vy y)
 (hx : Under p x) (hy : Under p y) (hp : 1 ≤ p) (hp2 : p ≤ 1048576) (hxl : x.length ≤ 6) (hyl : y.length = x.length) :
 Calls Tryz.prog 99 #[ringV 7 p n, vx, vy] w fun e w' => ∃ v', e = .returned v' ∧ OwnI w' w.heap.size v' (mulRows false p y (List.replicate x.length 0) 0 x) ∧ Ext w w' := by
 obtain ⟨ax, capx, rfl, hc1, hc2⟩ := hvx.val
 obtain ⟨ay, capy, rfl, hc3, hc4⟩ := hvy.val
 have hmk := mkInts x.length (by omega)
 have hyl6 : y.length ≤ 6 := by omega
 have HYL := Lib.hid hyl; clear hyl
 have HX := Lib.hid hx; clear hx
 have HY := Lib.hid hy; clear hy
 have hz0 : Under p (List.replicate x.length 0) := under_zeros _ (by omega)
 have HZ := Lib.hid hz0; clear hz0
 go_enter Tryz.func99, Tryz.ntmps99
 go_wp2
 go_loopw [19] (fun i wr => ∃ (i' : Nat) (acc : List Int), i' ≤ x.length ∧ i = .int .i64 i' ∧ acc.length = x.length ∧ Under p acc ∧
  mulRows false p y acc i' (x.drop i') = mulRows false p y (List.replicate x.length 0) 0 x ∧ Blk wr (w.heap.size + 1) 3 (ints acc) ∧ wr.cell? ⟨w.heap.size, 1, none⟩ = some (.int .i64 p) ∧ wr.cell? ⟨w.heap.size, 0, none⟩ = some (.int .i64 7) ∧ Ext w wr ∧ w.heap.size + 1 < wr.heap.size) (fun i _ => x.length - (RowKit.intOf i).toNat)
 case atStart => exact ⟨0, _, Nat.zero_le _, rfl, by simp, HZ.out, rfl, blk_made _ _ _ (by simp), by simp [go_sem], by simp [go_sem], xt, by simp⟩
 obtain ⟨i', acc, hi, rfl, hla, hua, hE, hB, q1, q0, hEx, hsz⟩ := hrel
 by_cases hlt : i' < x.length
 · obtain ⟨b1, off1, a, rfl, hcx, ha, _⟩ := (hvx.ext hEx).get hlt
   have hE2 : mulRows false p y (mulRow false p i' a acc 0 y) (i' + 1) (x.drop (i' + 1)) = mulRows false p y (List.replicate x.length 0) 0 x := by rw [← hE, drop_at ha]; rfl
   clear hE
   have HE := Lib.hid hE2; clear hE2
   have HU := Lib.hid hua; clear hua
   have HA := Lib.hid ha; clear ha
   go_wp2
   go_loopw [26] (fun i wr => ∃ (j : Nat) (acc' : List Int), j ≤ y.length ∧ i = .int .i64 j ∧ acc'.length = x.length ∧ Under p acc' ∧
    mulRow false p i' a acc' j (y.drop j) = mulRow false p i' a acc 0 y ∧ Blk wr (w.heap.size + 1) 3 (ints acc') ∧ wr.cell? ⟨w.heap.size, 1, none⟩ = some (.int .i64 p) ∧ wr.cell? ⟨w.heap.size, 0, none⟩ = some (.int .i64 7) ∧ Ext w wr ∧ w.heap.size + 1 < wr.heap.size) (fun i _ => y.length - (RowKit.intOf i).toNat)
   case atStart => exact ⟨0, acc, Nat.zero_le _, rfl, hla, HU.out, rfl, hB, q1, q0, hEx, hsz⟩
   clear hB q1 q0 hEx hsz hcx
   obtain ⟨j, acc2, hj, rfl, hla2, hua2, hE3, hB2, q1, q0, hE5, hsz2⟩ := hrel
   have HE5 := hE5
   by_cases hlt2 : j < y.length
   · obtain ⟨b2, off2, b', rfl, hcy, hyj, _⟩ := (hvy.ext hE5).get (i := j) hlt2
     obtain ⟨a', ha'⟩ : ∃ a', a' = a := ⟨_, rfl⟩
     subst ha'
     have hxi := HA.out
     obtain ⟨a0, a1⟩ := HX.out a' (List.mem_of_getElem? hxi)
     obtain ⟨b0, b1'⟩ := HY.out b' (List.mem_of_getElem? hyj)
     obtain ⟨p0, p1⟩ := prod_bound a0 b0 (show a' ≤ 1048576 by omega) (show b' ≤ 1048576 by omega)
     have hE4 : mulRow false p i' a' (put1 false p acc2 (i' + j) (a' * b')) (j + 1) (y.drop (j + 1)) = mulRow false p i' a' acc 0 y := by rw [← hE3, drop_at hyj]; rfl
     clear hE3
     have HE4 := Lib.hid hE4; clear hE4
     have hput := under_put false hua2 (i' + j) (a' * b') hp
     have HU2 := Lib.hid hput; clear hput
     have l2 := World.block_lt_of_cell? wr _ hcy
     by_cases hk : i' + j < x.length
     · obtain ⟨o, ho⟩ : ∃ o, acc2[i' + j]? = some o := ⟨_, List.getElem?_eq_getElem (by omega)⟩
       obtain ⟨o0, o1⟩ := hua2 o (List.mem_of_getElem? ho)
       have hco := hB2.cell (j := i' + j) (u := .int .i64 o) (by rw [ints_get, ho]; rfl)
       have hfo := hB2.free (i' + j)
       have hpt : put1 false p acc2 (i' + j) (a' * b') = acc2.set (i' + j) ((o + a' * b') % p) := put1_in (by omega) ho
       have HPT := Lib.hid hpt; clear hpt
       have hw1 := World.block_lt_of_cell? wr _ hco
       obtain ⟨r0, r1⟩ := mod_bound (o + a' * b') hp
       have hset := hB2.set (i' + j) (.int .i64 ((o + a' * b') % p))
       rw [ints_set, ← HPT.out] at hset
       have HS := Lib.hid hset; clear hset ho hua2 hxi hyj
       go_wp2
       go_region
       go_wp2
       go_roundw
       case rel =>
        refine ⟨j + 1, _, by omega, by go_num, (put1_length _ _ _ _ _).trans hla2, HU2.out, HE4.out, ?_, ?_, ?_, xt, by simp [World.setCell]; omega⟩
        · exact HS.out.ext xt
        · simp [go_sem, q1]
        simp [go_sem, q0]
       case measure => simp [RowKit.intOf]; omega
     have hpt : put1 false p acc2 (i' + j) (a' * b') = acc2 := put1_out (by omega)
     have HPT := Lib.hid hpt; clear hpt hua2 hxi hyj
     go_wp2
     go_roundw
     case rel => exact ⟨j + 1, _, by omega, by go_num, (put1_length _ _ _ _ _).trans hla2, HU2.out, HE4.out, by rw [HPT.out]; exact hB2, q1, q0, hE5, hsz2⟩
     case measure => simp [RowKit.intOf]; omega
   have : j = y.length := by omega
   subst this
   have hend : acc2 = mulRow false p i' a acc 0 y := by simpa [mulRow] using hE3
   subst hend
   have HU3 := Lib.hid hua2; clear hua2 hE3
   go_wp2
   go_roundw
   case rel => exact ⟨i' + 1, _, by omega, by go_num, hla2, HU3.out, HE.out, hB2, q1, q0, hE5, hsz2⟩
   case measure => simp [RowKit.intOf]; omega
 have : i' = x.length := by omega
 subst this
 have hend : acc = mulRows false p y (List.replicate x.length 0) 0 x := by simpa [mulRows] using hE
 have HND := Lib.hid hend
 clear hua hE hend
 go_wp2
 go_ret
 rw [HND.out] at hB hla
 exact ⟨_, rfl, OwnI.mk' hla (by omega) hB (Nat.le_trans hc1 hc2), hEx⟩
theorem l02Mul_8 (p n : Int) (vx vy : Value) (x y : List Int) (w : World) (hvx : IntS w vx x) (hvy : IntS w vy y)
 (hx : Under p x) (hy : Under p y) (hp : 1 ≤ p) (hp2 : p ≤ 1048576) (hxl : x.length ≤ 6) (hyl : y.length = x.length) (hx4 : x.length = 4) :
 Calls Tryz.prog 99 #[ringV 8 p n, vx, vy] w fun e w' => ∃ v', e = .returned v' ∧ OwnI w' w.heap.size v' (mulRows true p y (List.replicate x.length 0) 0 x) ∧ Ext w w' := by
 obtain ⟨ax, capx, rfl, hc1, hc2⟩ := hvx.val
 obtain ⟨ay, capy, rfl, hc3, hc4⟩ := hvy.val
 have hmk := mkInts x.length (by omega)
 have hyl6 : y.length ≤ 6 := by omega
 have HX4 := Lib.hid hx4; clear hx4
 have HYL := Lib.hid hyl; clear hyl
 have HX := Lib.hid hx; clear hx
 have HY := Lib.hid hy; clear hy
 have hz0 : Under p (List.replicate x.length 0) := under_zeros _ (by omega)
 have HZ := Lib.hid hz0; clear hz0
 go_enter Tryz.func99, Tryz.ntmps99
 go_wp2
 go_loopw [19] (fun i wr => ∃ (i' : Nat) (acc : List Int), i' ≤ x.length ∧ i = .int .i64 i' ∧ acc.length = x.length ∧ Under p acc ∧
  mulRows true p y acc i' (x.drop i') = mulRows true p y (List.replicate x.length 0) 0 x ∧ Blk wr (w.heap.size + 1) 3 (ints acc) ∧ wr.cell? ⟨w.heap.size, 1, none⟩ = some (.int .i64 p) ∧ wr.cell? ⟨w.heap.size, 0, none⟩ = some (.int .i64 8) ∧ Ext w wr ∧ w.heap.size + 1 < wr.heap.size) (fun i _ => x.length - (RowKit.intOf i).toNat)
 case atStart => exact ⟨0, _, Nat.zero_le _, rfl, by simp, HZ.out, rfl, blk_made _ _ _ (by simp), by simp [go_sem], by simp [go_sem], xt, by simp⟩
 obtain ⟨i', acc, hi, rfl, hla, hua, hE, hB, q1, q0, hEx, hsz⟩ := hrel
 by_cases hlt : i' < x.length
 · obtain ⟨b1, off1, a, rfl, hcx, ha, _⟩ := (hvx.ext hEx).get hlt
   have hE2 : mulRows true p y (mulRow true p i' a acc 0 y) (i' + 1) (x.drop (i' + 1)) = mulRows true p y (List.replicate x.length 0) 0 x := by rw [← hE, drop_at ha]; rfl
   clear hE
   have HE := Lib.hid hE2; clear hE2
   have HU := Lib.hid hua; clear hua
   have HA := Lib.hid ha; clear ha
   go_wp2
   go_loopw [26] (fun i wr => ∃ (j : Nat) (acc' : List Int), j ≤ y.length ∧ i = .int .i64 j ∧ acc'.length = x.length ∧ Under p acc' ∧
    mulRow true p i' a acc' j (y.drop j) = mulRow true p i' a acc 0 y ∧ Blk wr (w.heap.size + 1) 3 (ints acc') ∧ wr.cell? ⟨w.heap.size, 1, none⟩ = some (.int .i64 p) ∧ wr.cell? ⟨w.heap.size, 0, none⟩ = some (.int .i64 8) ∧ Ext w wr ∧ w.heap.size + 1 < wr.heap.size) (fun i _ => y.length - (RowKit.intOf i).toNat)
   case atStart => exact ⟨0, acc, Nat.zero_le _, rfl, hla, HU.out, rfl, hB, q1, q0, hEx, hsz⟩
   clear hB q1 q0 hEx hsz hcx
   obtain ⟨j, acc2, hj, rfl, hla2, hua2, hE3, hB2, q1, q0, hE5, hsz2⟩ := hrel
   have HE5 := hE5
   by_cases hlt2 : j < y.length
   · obtain ⟨b2, off2, b', rfl, hcy, hyj, _⟩ := (hvy.ext hE5).get (i := j) hlt2
     obtain ⟨a', ha'⟩ : ∃ a', a' = a := ⟨_, rfl⟩
     subst ha'
     have hxi := HA.out
     obtain ⟨a0, a1⟩ := HX.out a' (List.mem_of_getElem? hxi)
     obtain ⟨b0, b1'⟩ := HY.out b' (List.mem_of_getElem? hyj)
     obtain ⟨p0, p1⟩ := prod_bound a0 b0 (show a' ≤ 1048576 by omega) (show b' ≤ 1048576 by omega)
     have hE4 : mulRow true p i' a' (put1 true p acc2 (i' + j) (a' * b')) (j + 1) (y.drop (j + 1)) = mulRow true p i' a' acc 0 y := by rw [← hE3, drop_at hyj]; rfl
     clear hE3
     have HE4 := Lib.hid hE4; clear hE4
     have hput := under_put true hua2 (i' + j) (a' * b') hp
     have HU2 := Lib.hid hput; clear hput
     have l2 := World.block_lt_of_cell? wr _ hcy
     by_cases hk : i' + j < x.length
     · obtain ⟨o, ho⟩ : ∃ o, acc2[i' + j]? = some o := ⟨_, List.getElem?_eq_getElem (by omega)⟩
       obtain ⟨o0, o1⟩ := hua2 o (List.mem_of_getElem? ho)
       have hco := hB2.cell (j := i' + j) (u := .int .i64 o) (by rw [ints_get, ho]; rfl)
       have hfo := hB2.free (i' + j)
       have hpt : put1 true p acc2 (i' + j) (a' * b') = acc2.set (i' + j) ((o + a' * b') % p) := put1_in (by omega) ho
       have HPT := Lib.hid hpt; clear hpt
       have hw1 := World.block_lt_of_cell? wr _ hco
       obtain ⟨r0, r1⟩ := mod_bound (o + a' * b') hp
       have hset := hB2.set (i' + j) (.int .i64 ((o + a' * b') % p))
       rw [ints_set, ← HPT.out] at hset
       have HS := Lib.hid hset; clear hset ho hua2 hxi hyj
       go_wp2
       go_region
       go_wp2
       go_roundw
       case rel =>
        refine ⟨j + 1, _, by omega, by go_num, (put1_length _ _ _ _ _).trans hla2, HU2.out, HE4.out, ?_, ?_, ?_, xt, by simp [World.setCell]; omega⟩
        · exact HS.out.ext xt
        · simp [go_sem, q1]
        simp [go_sem, q0]
       case measure => simp [RowKit.intOf]; omega
     have hk4 : 4 ≤ i' + j := by have := HX4.out; omega
     have hk5 : i' + j - 4 < x.length := by have := HX4.out; have := HYL.out; omega
     obtain ⟨o, ho⟩ : ∃ o, acc2[i' + j - 4]? = some o := ⟨_, List.getElem?_eq_getElem (by omega)⟩
     obtain ⟨o0, o1⟩ := hua2 o (List.mem_of_getElem? ho)
     have hco := hB2.cell (j := i' + j - 4) (u := .int .i64 o) (by rw [ints_get, ho]; rfl)
     have hfo := hB2.free (i' + j - 4)
     have hpt : put1 true p acc2 (i' + j) (a' * b') = acc2.set (i' + j - 4) ((o - a' * b') % p) := put1_over (by omega) ho
     have HPT := Lib.hid hpt; clear hpt
     have hcast : ((i' : Int) + (j : Int) - 4).toNat = i' + j - 4 := by omega
     have hw1 := World.block_lt_of_cell? wr _ hco
     have he : (o + (p - a') * b') % p = (o - a' * b') % p := mod_sub2 o a' b' p
     obtain ⟨p2, p3⟩ := prod_bound (show 0 ≤ p - a' by omega) b0 (show p - a' ≤ 1048576 by omega) (show b' ≤ 1048576 by omega)
     obtain ⟨r2, r3⟩ := mod_bound (o + (p - a') * b') hp
     have HEQ := Lib.hid he; clear he
     have hset := hB2.set (i' + j - 4) (.int .i64 ((o - a' * b') % p))
     rw [ints_set, ← HPT.out] at hset
     have HS := Lib.hid hset; clear hset ho hua2 hxi hyj
     go_wp2
     go_region
     go_wp2
     go_roundw
     case rel =>
      refine ⟨j + 1, _, by omega, by go_num, (put1_length _ _ _ _ _).trans hla2, HU2.out, HE4.out, ?_, ?_, ?_, xt, by simp [World.setCell]; omega⟩
      · rw [HEQ.out]; exact HS.out.ext xt
      · simp [go_sem, q1]
      simp [go_sem, q0]
     case measure => simp [RowKit.intOf]; omega
   have : j = y.length := by omega
   subst this
   have hend : acc2 = mulRow true p i' a acc 0 y := by simpa [mulRow] using hE3
   subst hend
   have HU3 := Lib.hid hua2; clear hua2 hE3
   go_wp2
   go_roundw
   case rel => exact ⟨i' + 1, _, by omega, by go_num, hla2, HU3.out, HE.out, hB2, q1, q0, hE5, hsz2⟩
   case measure => simp [RowKit.intOf]; omega
 have : i' = x.length := by omega
 subst this
 have hend : acc = mulRows true p y (List.replicate x.length 0) 0 x := by simpa [mulRows] using hE
 have HND := Lib.hid hend
 clear hua hE hend
 go_wp2
 go_ret
 rw [HND.out] at hB hla
 exact ⟨_, rfl, OwnI.mk' hla (by omega) hB (Nat.le_trans hc1 hc2), hEx⟩
theorem and_bool (a b : Int) (ha : 0 ≤ a ∧ a ≤ 1) (hb : 0 ≤ b ∧ b ≤ 1) : bits BinOp.and IntKind.i64 a b = min a b := by
  obtain rfl | rfl : a = 0 ∨ a = 1 := by omega
  all_goals obtain rfl | rfl : b = 0 ∨ b = 1 := by omega
  all_goals decide
theorem l02Mul_one (k p n a c2 : Int) (vx vy : Value) (w : World) (hk : k = 1 ∨ k = 2 ∨ k = 3 ∨ k = 4 ∨ k = 5 ∨ k = 6) (hvx : IntS w vx [a]) (hvy : IntS w vy [c2])
 (ha : 0 ≤ a ∧ a ≤ 1048576) (hb : 0 ≤ c2 ∧ c2 ≤ 1048576) (h1 : k = 1 → a ≤ 1 ∧ c2 ≤ 1) (hp : k = 2 → 1 ≤ p ∧ p ≤ 1048576) :
 Calls Tryz.prog 99 #[ringV k p n, vx, vy] w fun e w' => ∃ v', e = .returned v' ∧ OwnI w' w.heap.size v' [mul1 k p a c2] ∧ Ext w w' := by
 obtain ⟨ax, capx, rfl, hc1, hc2⟩ := hvx.val
 obtain ⟨ay, capy, rfl, hc3, hc4⟩ := hvy.val
 obtain ⟨b1, off1, x, rfl, hcx, hx0, _⟩ := hvx.get (i := 0) (by simp)
 obtain ⟨b2, off2, y, rfl, hcy, hy0, _⟩ := hvy.get (i := 0) (by simp)
 simp at hx0 hy0
 subst hx0 hy0
 rw [Nat.add_zero] at hcx hcy
 have l1 := World.block_lt_of_cell? w _ hcx
 have l2 := World.block_lt_of_cell? w _ hcy
 have hmk : ∀ w : World, (Instr.makeSlice 27 (.int .i64 1) (.int .i64 1)).run Tryz.prog w = .ok (.slice (some ⟨w.heap.size, 0, none⟩) 1 1) (w.alloc (.cells (madeCells #[.int .i64 0] 1) 3)) := fun w => mkIntsI 1 (by omega) (by omega) w
 have hmg := made_get (n := 1) (j := 0) (by omega)
 obtain ⟨a0, a1⟩ := ha
 obtain ⟨b0, b1'⟩ := hb
 obtain ⟨p0, p1⟩ := prod_bound a0 b0 a1 b1'
 obtain ⟨v, hv⟩ : ∃ v, mul1 k p a c2 = v := ⟨_, rfl⟩
 simp only [hv]
 have HV := Lib.hid hv; clear hv
 have H1 := Lib.hid h1; clear h1
 have HBB := Lib.hid (fun x => blk_made_set (w.alloc (.cells #[.int .i64 k, .int .i64 p, .int .i64 n] 24)) 1 x (w.heap.size + 1) (by simp))
 rcases hk with rfl | rfl | rfl | rfl | rfl | rfl
 case' inr.inl => obtain ⟨pp0, pp1⟩ := hp rfl
 all_goals
  clear hp
  go_enter Tryz.func99, Tryz.ntmps99
  go_wp2
  go_region
  go_wp2
 all_goals
  go_ret
  have e : ∀ {w' : World} {b : Nat} {T : TypeId} (u : Int), u = v → Blk w' b T (ints [u]) → Blk w' b T (ints [v]) := fun u h hh => h ▸ hh
  refine ⟨_, rfl, OwnI.mk' (n := 1) rfl (Nat.le_succ _) (Blk.ext (e _ ?_ (HBB.out _)) xt) (by unfold maxLen; omega), xt⟩
  rw [← HV.out]
  first
   | exact (and_bool _ _ ⟨a0, (H1.out trivial).1⟩ ⟨b0, (H1.out trivial).2⟩).trans (by simp [mul1])
   | (simp [mul1]; done)
   | (simp [mul1]; omega)
   | (simp [mul1]; split <;> omega)
theorem l02Mul_any (k p n : Int) (vx vy : Value) (x y : List Int) (w : World) (hr : ringOk k p n = true) (hvx : IntS w vx x) (hvy : IntS w vy y)
    (hx : rawOk k p n x = true) (hy : rawOk k p n y = true) :
    Calls Tryz.prog 99 #[ringV k p n, vx, vy] w fun e w' => ∃ v', e = .returned v' ∧ OwnI w' w.heap.size v' (mulL k p x y) ∧ Ext w w' := by
  obtain ⟨fx, lx⟩ := rawOk_fit hr hx
  obtain ⟨fy, ly⟩ := rawOk_fit hr hy
  have hw := (ringOk_wide hr).hi
  have hw0 := (ringOk_wide hr).lo
  by_cases hk : k = 7 ∨ k = 8
  · obtain ⟨h1, h2⟩ := ringOk_pos hr (by omega)
    have ux := rawOk_under hk h1 hx
    have uy := rawOk_under hk h1 hy
    rcases hk with rfl | rfl
    · rw [show mulL 7 p x y = mulRows false p y (List.replicate x.length 0) 0 x by simp [mulL]]
      exact l02Mul_7 p n vx vy x y w hvx hvy ux uy h1 (by omega) (by omega) (by omega)
    · have hw4 : ringWidth 8 n = 4 := by simp [ringWidth]
      rw [show mulL 8 p x y = mulRows true p y (List.replicate x.length 0) 0 x by simp [mulL]]
      exact l02Mul_8 p n vx vy x y w hvx hvy ux uy h1 (by omega) (by omega) (by omega) (by omega)
  · have hk2 : k = 1 ∨ k = 2 ∨ k = 3 ∨ k = 4 ∨ k = 5 ∨ k = 6 := by
      rcases kinds k with rfl | rfl | rfl | rfl | rfl | rfl | rfl | rfl | ⟨e1, e2, e3, e4, e5, e6, e7, e8⟩
      all_goals first | omega | (simp [ringOk, *] at hr)
    have h7 : ¬ k = 7 := by omega
    have h8 : ¬ k = 8 := by omega
    have hw1 : ringWidth k n = 1 := by simp [ringWidth, h7, h8]
    obtain ⟨a, rfl⟩ : ∃ a, x = [a] := List.length_eq_one_iff.1 (by omega)
    obtain ⟨a2, rfl⟩ : ∃ a, y = [a] := List.length_eq_one_iff.1 (by omega)
    rw [mulL_one h7 h8]
    exact l02Mul_one k p n a a2 vx vy w hk2 hvx hvy (fx.1 a (by simp)) (fy.1 a2 (by simp)) (fun h => ⟨fx.2 h a (by simp), fy.2 h a2 (by simp)⟩) (fun h => by have := ringOk_pos hr (by omega); omega)
end Go.Proofs.YtlgjddgajdjllaaGreat
