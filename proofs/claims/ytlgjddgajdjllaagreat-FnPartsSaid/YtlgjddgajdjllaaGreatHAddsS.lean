/- Sums of elements: l02Add of the reference. -/
import Derived.Test.YtlgjddgajdjllaaGreatHBase
set_option linter.unusedSimpArgs false
set_option linter.unusedVariables false
set_option maxRecDepth 100000
set_option maxHeartbeats 1000000
namespace Go.Proofs.YtlgjddgajdjllaaGreat
open Go.RowKit
theorem l02Add_1 (p n : Int) (vx vy : Value) (x y : List Int) (w : World) (hvx : IntS w vx x) (hvy : IntS w vy y)
 (hlen : y.length = x.length) (hx : FitK 1 x) (hy : FitK 1 y) (hl64 : x.length ≤ 1048576) :
 Calls Tryz.prog 71 #[ringV 1 p n, vx, vy] w fun e w' => ∃ v', e = .returned v' ∧ OwnI w' w.heap.size v' (addL 1 p x y) ∧ Ext w w' := by
 obtain ⟨ax, capx, rfl, hc1, hc2⟩ := hvx.val
 obtain ⟨ay, capy, rfl, hc3, hc4⟩ := hvy.val
 have hmk := mkInts x.length (by omega)
 have HF := Lib.hid (addL_length (k := 1) (p := p) hlen)
 have HN := Lib.hid hlen; clear hlen
 have HX := Lib.hid hx; clear hx
 have HY := Lib.hid hy; clear hy
 go_enter Tryz.func71, Tryz.ntmps71
 go_wp2
 go_loopw [14] (fun i wr => ∃ j : Nat, j ≤ x.length ∧ i = .int .i64 j ∧ Blk wr (w.heap.size + 1) 3 (ints (mix (addL 1 p x y) (List.replicate x.length 0) j)) ∧ wr.cell? ⟨w.heap.size, 1, none⟩ = some (.int .i64 p) ∧ wr.cell? ⟨w.heap.size, 0, none⟩ = some (.int .i64 1) ∧ Ext w wr ∧ w.heap.size + 1 < wr.heap.size) (fun i _ => x.length - (RowKit.intOf i).toNat)
 case atStart => exact ⟨0, Nat.zero_le _, rfl, by rw [mix_zero]; exact blk_made _ _ _ (by simp), by simp [go_sem], by simp [go_sem], xt, by simp⟩
 obtain ⟨j, hj, rfl, hB, q1, q0, hE, hsz⟩ := hrel
 have HE := hE
 have hfl : (addL 1 p x y).length = (List.replicate x.length (0 : Int)).length := by rw [HF.out]; simp
 have HFL := Lib.hid hfl; clear hfl
 by_cases hlt : j < x.length
 · obtain ⟨b, off, a, rfl, hcx, ha, _⟩ := (hvx.ext hE).get hlt
   obtain ⟨b2, off2, c2, rfl, hcy, hyj, _⟩ := (hvy.ext hE).get (i := j) (by have := HN.out; omega)
   obtain ⟨a0, a1⟩ := HX.out.1.get ha
   obtain ⟨b0, b1⟩ := HY.out.1.get hyj
   have hlt2 : j < y.length := by have := HN.out; omega
   have hm : (mix (addL 1 p x y) (List.replicate x.length 0) j)[j]? = some 0 := by rw [mix_get HFL.out (by simpa using hlt)]; simp [hlt]
   have ho := hB.cell (j := j) (u := .int .i64 0) (by rw [ints_get, hm]; rfl)
   have hfr := hB.free j
   have hl1 := World.block_lt_of_cell? wr _ hcx
   have hl2 := World.block_lt_of_cell? wr _ hcy
   have hw1 := World.block_lt_of_cell? wr _ ho
   have hf : (addL 1 p x y)[j]? = some (add1 1 p a c2) := by unfold addL; rw [zip_get ha hyj]
   have hone : a ≤ 1 ∧ c2 ≤ 1 := ⟨HX.out.2 rfl a (List.mem_of_getElem? ha), HY.out.2 rfl c2 (List.mem_of_getElem? hyj)⟩
   have HO := Lib.hid hone; clear hone
   have hset := hB.set j (.int .i64 (add1 1 p a c2))
   rw [ints_set, mix_set HFL.out hf] at hset
   have HS := Lib.hid hset
   clear hset hf hm ha hyj
   go_wp2
   go_region
   go_wp2
   all_goals
    go_roundw
    case rel =>
     refine ⟨j + 1, by omega, by go_num, ?_, ?_, ?_, xt, by simp [World.setCell]; omega⟩
     · refine Blk.ext (w := wr.setCell ⟨w.heap.size + 1, j, none⟩ _) ?_ xt
       have e : ∀ z v : Int, v = z → Blk (wr.setCell ⟨w.heap.size + 1, j, none⟩ (.int .i64 z)) (w.heap.size + 1) 3 (ints (mix (addL 1 p x y) (List.replicate x.length 0) (j + 1))) → Blk (wr.setCell ⟨w.heap.size + 1, j, none⟩ (.int .i64 v)) (w.heap.size + 1) 3 (ints (mix (addL 1 p x y) (List.replicate x.length 0) (j + 1))) := fun z v h hh => by subst h; exact hh
       refine e _ _ ?_ HS.out
       exact (or_bool _ _ ⟨a0, HO.out.1⟩ ⟨b0, HO.out.2⟩).trans (by simp [add1])
     · simp [go_sem, q1]
     · simp [go_sem, q0]
    case measure => simp [RowKit.intOf]; omega
 have : j = x.length := by omega
 subst this
 go_wp2
 go_ret
 have e : mix (addL 1 p x y) (List.replicate x.length 0) x.length = addL 1 p x y := by have := mix_all HFL.out; rwa [List.length_replicate] at this
 rw [e] at hB
 exact ⟨_, rfl, OwnI.mk' HF.out (by omega) hB (Nat.le_trans hc1 hc2), hE⟩
theorem l02Add_2 (p n : Int) (vx vy : Value) (x y : List Int) (w : World) (hvx : IntS w vx x) (hvy : IntS w vy y)
 (hlen : y.length = x.length) (hx : FitK 2 x) (hy : FitK 2 y) (hp1 : 1 ≤ p) (hp2 : p ≤ 1048576) (hl64 : x.length ≤ 1048576) :
 Calls Tryz.prog 71 #[ringV 2 p n, vx, vy] w fun e w' => ∃ v', e = .returned v' ∧ OwnI w' w.heap.size v' (addL 2 p x y) ∧ Ext w w' := by
 obtain ⟨ax, capx, rfl, hc1, hc2⟩ := hvx.val
 obtain ⟨ay, capy, rfl, hc3, hc4⟩ := hvy.val
 have hmk := mkInts x.length (by omega)
 have HF := Lib.hid (addL_length (k := 2) (p := p) hlen)
 have HN := Lib.hid hlen; clear hlen
 have HX := Lib.hid hx; clear hx
 have HY := Lib.hid hy; clear hy
 go_enter Tryz.func71, Tryz.ntmps71
 go_wp2
 go_loopw [14] (fun i wr => ∃ j : Nat, j ≤ x.length ∧ i = .int .i64 j ∧ Blk wr (w.heap.size + 1) 3 (ints (mix (addL 2 p x y) (List.replicate x.length 0) j)) ∧ wr.cell? ⟨w.heap.size, 1, none⟩ = some (.int .i64 p) ∧ wr.cell? ⟨w.heap.size, 0, none⟩ = some (.int .i64 2) ∧ Ext w wr ∧ w.heap.size + 1 < wr.heap.size) (fun i _ => x.length - (RowKit.intOf i).toNat)
 case atStart => exact ⟨0, Nat.zero_le _, rfl, by rw [mix_zero]; exact blk_made _ _ _ (by simp), by simp [go_sem], by simp [go_sem], xt, by simp⟩
 obtain ⟨j, hj, rfl, hB, q1, q0, hE, hsz⟩ := hrel
 have HE := hE
 have hfl : (addL 2 p x y).length = (List.replicate x.length (0 : Int)).length := by rw [HF.out]; simp
 have HFL := Lib.hid hfl; clear hfl
 by_cases hlt : j < x.length
 · obtain ⟨b, off, a, rfl, hcx, ha, _⟩ := (hvx.ext hE).get hlt
   obtain ⟨b2, off2, c2, rfl, hcy, hyj, _⟩ := (hvy.ext hE).get (i := j) (by have := HN.out; omega)
   obtain ⟨a0, a1⟩ := HX.out.1.get ha
   obtain ⟨b0, b1⟩ := HY.out.1.get hyj
   have hlt2 : j < y.length := by have := HN.out; omega
   have hm : (mix (addL 2 p x y) (List.replicate x.length 0) j)[j]? = some 0 := by rw [mix_get HFL.out (by simpa using hlt)]; simp [hlt]
   have ho := hB.cell (j := j) (u := .int .i64 0) (by rw [ints_get, hm]; rfl)
   have hfr := hB.free j
   have hl1 := World.block_lt_of_cell? wr _ hcx
   have hl2 := World.block_lt_of_cell? wr _ hcy
   have hw1 := World.block_lt_of_cell? wr _ ho
   have hf : (addL 2 p x y)[j]? = some (add1 2 p a c2) := by unfold addL; rw [zip_get ha hyj]
   have hone : True := trivial
   have HO := Lib.hid hone; clear hone
   have hset := hB.set j (.int .i64 (add1 2 p a c2))
   rw [ints_set, mix_set HFL.out hf] at hset
   have HS := Lib.hid hset
   clear hset hf hm ha hyj
   go_wp2
   go_region
   go_wp2
   all_goals
    go_roundw
    case rel =>
     refine ⟨j + 1, by omega, by go_num, ?_, ?_, ?_, xt, by simp [World.setCell]; omega⟩
     · refine Blk.ext (w := wr.setCell ⟨w.heap.size + 1, j, none⟩ _) ?_ xt
       have e : ∀ z v : Int, v = z → Blk (wr.setCell ⟨w.heap.size + 1, j, none⟩ (.int .i64 z)) (w.heap.size + 1) 3 (ints (mix (addL 2 p x y) (List.replicate x.length 0) (j + 1))) → Blk (wr.setCell ⟨w.heap.size + 1, j, none⟩ (.int .i64 v)) (w.heap.size + 1) 3 (ints (mix (addL 2 p x y) (List.replicate x.length 0) (j + 1))) := fun z v h hh => by subst h; exact hh
       refine e _ _ ?_ HS.out
       simp [add1]
       try (first | omega | (split <;> omega))
     · simp [go_sem, q1]
     · simp [go_sem, q0]
    case measure => simp [RowKit.intOf]; omega
 have : j = x.length := by omega
 subst this
 go_wp2
 go_ret
 have e : mix (addL 2 p x y) (List.replicate x.length 0) x.length = addL 2 p x y := by have := mix_all HFL.out; rwa [List.length_replicate] at this
 rw [e] at hB
 exact ⟨_, rfl, OwnI.mk' HF.out (by omega) hB (Nat.le_trans hc1 hc2), hE⟩
theorem l02Add_3 (p n : Int) (vx vy : Value) (x y : List Int) (w : World) (hvx : IntS w vx x) (hvy : IntS w vy y)
 (hlen : y.length = x.length) (hx : FitK 3 x) (hy : FitK 3 y) (hl64 : x.length ≤ 1048576) :
 Calls Tryz.prog 71 #[ringV 3 p n, vx, vy] w fun e w' => ∃ v', e = .returned v' ∧ OwnI w' w.heap.size v' (addL 3 p x y) ∧ Ext w w' := by
 obtain ⟨ax, capx, rfl, hc1, hc2⟩ := hvx.val
 obtain ⟨ay, capy, rfl, hc3, hc4⟩ := hvy.val
 have hmk := mkInts x.length (by omega)
 have HF := Lib.hid (addL_length (k := 3) (p := p) hlen)
 have HN := Lib.hid hlen; clear hlen
 have HX := Lib.hid hx; clear hx
 have HY := Lib.hid hy; clear hy
 go_enter Tryz.func71, Tryz.ntmps71
 go_wp2
 go_loopw [14] (fun i wr => ∃ j : Nat, j ≤ x.length ∧ i = .int .i64 j ∧ Blk wr (w.heap.size + 1) 3 (ints (mix (addL 3 p x y) (List.replicate x.length 0) j)) ∧ wr.cell? ⟨w.heap.size, 1, none⟩ = some (.int .i64 p) ∧ wr.cell? ⟨w.heap.size, 0, none⟩ = some (.int .i64 3) ∧ Ext w wr ∧ w.heap.size + 1 < wr.heap.size) (fun i _ => x.length - (RowKit.intOf i).toNat)
 case atStart => exact ⟨0, Nat.zero_le _, rfl, by rw [mix_zero]; exact blk_made _ _ _ (by simp), by simp [go_sem], by simp [go_sem], xt, by simp⟩
 obtain ⟨j, hj, rfl, hB, q1, q0, hE, hsz⟩ := hrel
 have HE := hE
 have hfl : (addL 3 p x y).length = (List.replicate x.length (0 : Int)).length := by rw [HF.out]; simp
 have HFL := Lib.hid hfl; clear hfl
 by_cases hlt : j < x.length
 · obtain ⟨b, off, a, rfl, hcx, ha, _⟩ := (hvx.ext hE).get hlt
   obtain ⟨b2, off2, c2, rfl, hcy, hyj, _⟩ := (hvy.ext hE).get (i := j) (by have := HN.out; omega)
   obtain ⟨a0, a1⟩ := HX.out.1.get ha
   obtain ⟨b0, b1⟩ := HY.out.1.get hyj
   have hlt2 : j < y.length := by have := HN.out; omega
   have hm : (mix (addL 3 p x y) (List.replicate x.length 0) j)[j]? = some 0 := by rw [mix_get HFL.out (by simpa using hlt)]; simp [hlt]
   have ho := hB.cell (j := j) (u := .int .i64 0) (by rw [ints_get, hm]; rfl)
   have hfr := hB.free j
   have hl1 := World.block_lt_of_cell? wr _ hcx
   have hl2 := World.block_lt_of_cell? wr _ hcy
   have hw1 := World.block_lt_of_cell? wr _ ho
   have hf : (addL 3 p x y)[j]? = some (add1 3 p a c2) := by unfold addL; rw [zip_get ha hyj]
   have hone : True := trivial
   have HO := Lib.hid hone; clear hone
   have hset := hB.set j (.int .i64 (add1 3 p a c2))
   rw [ints_set, mix_set HFL.out hf] at hset
   have HS := Lib.hid hset
   clear hset hf hm ha hyj
   go_wp2
   go_region
   go_wp2
   all_goals
    go_roundw
    case rel =>
     refine ⟨j + 1, by omega, by go_num, ?_, ?_, ?_, xt, by simp [World.setCell]; omega⟩
     · refine Blk.ext (w := wr.setCell ⟨w.heap.size + 1, j, none⟩ _) ?_ xt
       have e : ∀ z v : Int, v = z → Blk (wr.setCell ⟨w.heap.size + 1, j, none⟩ (.int .i64 z)) (w.heap.size + 1) 3 (ints (mix (addL 3 p x y) (List.replicate x.length 0) (j + 1))) → Blk (wr.setCell ⟨w.heap.size + 1, j, none⟩ (.int .i64 v)) (w.heap.size + 1) 3 (ints (mix (addL 3 p x y) (List.replicate x.length 0) (j + 1))) := fun z v h hh => by subst h; exact hh
       refine e _ _ ?_ HS.out
       simp [add1]
       try (first | omega | (split <;> omega))
     · simp [go_sem, q1]
     · simp [go_sem, q0]
    case measure => simp [RowKit.intOf]; omega
 have : j = x.length := by omega
 subst this
 go_wp2
 go_ret
 have e : mix (addL 3 p x y) (List.replicate x.length 0) x.length = addL 3 p x y := by have := mix_all HFL.out; rwa [List.length_replicate] at this
 rw [e] at hB
 exact ⟨_, rfl, OwnI.mk' HF.out (by omega) hB (Nat.le_trans hc1 hc2), hE⟩
theorem l02Add_4 (p n : Int) (vx vy : Value) (x y : List Int) (w : World) (hvx : IntS w vx x) (hvy : IntS w vy y)
 (hlen : y.length = x.length) (hx : FitK 4 x) (hy : FitK 4 y) (hl64 : x.length ≤ 1048576) :
 Calls Tryz.prog 71 #[ringV 4 p n, vx, vy] w fun e w' => ∃ v', e = .returned v' ∧ OwnI w' w.heap.size v' (addL 4 p x y) ∧ Ext w w' := by
 obtain ⟨ax, capx, rfl, hc1, hc2⟩ := hvx.val
 obtain ⟨ay, capy, rfl, hc3, hc4⟩ := hvy.val
 have hmk := mkInts x.length (by omega)
 have HF := Lib.hid (addL_length (k := 4) (p := p) hlen)
 have HN := Lib.hid hlen; clear hlen
 have HX := Lib.hid hx; clear hx
 have HY := Lib.hid hy; clear hy
 go_enter Tryz.func71, Tryz.ntmps71
 go_wp2
 go_loopw [14] (fun i wr => ∃ j : Nat, j ≤ x.length ∧ i = .int .i64 j ∧ Blk wr (w.heap.size + 1) 3 (ints (mix (addL 4 p x y) (List.replicate x.length 0) j)) ∧ wr.cell? ⟨w.heap.size, 1, none⟩ = some (.int .i64 p) ∧ wr.cell? ⟨w.heap.size, 0, none⟩ = some (.int .i64 4) ∧ Ext w wr ∧ w.heap.size + 1 < wr.heap.size) (fun i _ => x.length - (RowKit.intOf i).toNat)
 case atStart => exact ⟨0, Nat.zero_le _, rfl, by rw [mix_zero]; exact blk_made _ _ _ (by simp), by simp [go_sem], by simp [go_sem], xt, by simp⟩
 obtain ⟨j, hj, rfl, hB, q1, q0, hE, hsz⟩ := hrel
 have HE := hE
 have hfl : (addL 4 p x y).length = (List.replicate x.length (0 : Int)).length := by rw [HF.out]; simp
 have HFL := Lib.hid hfl; clear hfl
 by_cases hlt : j < x.length
 · obtain ⟨b, off, a, rfl, hcx, ha, _⟩ := (hvx.ext hE).get hlt
   obtain ⟨b2, off2, c2, rfl, hcy, hyj, _⟩ := (hvy.ext hE).get (i := j) (by have := HN.out; omega)
   obtain ⟨a0, a1⟩ := HX.out.1.get ha
   obtain ⟨b0, b1⟩ := HY.out.1.get hyj
   have hlt2 : j < y.length := by have := HN.out; omega
   have hm : (mix (addL 4 p x y) (List.replicate x.length 0) j)[j]? = some 0 := by rw [mix_get HFL.out (by simpa using hlt)]; simp [hlt]
   have ho := hB.cell (j := j) (u := .int .i64 0) (by rw [ints_get, hm]; rfl)
   have hfr := hB.free j
   have hl1 := World.block_lt_of_cell? wr _ hcx
   have hl2 := World.block_lt_of_cell? wr _ hcy
   have hw1 := World.block_lt_of_cell? wr _ ho
   have hf : (addL 4 p x y)[j]? = some (add1 4 p a c2) := by unfold addL; rw [zip_get ha hyj]
   have hone : True := trivial
   have HO := Lib.hid hone; clear hone
   have hset := hB.set j (.int .i64 (add1 4 p a c2))
   rw [ints_set, mix_set HFL.out hf] at hset
   have HS := Lib.hid hset
   clear hset hf hm ha hyj
   go_wp2
   go_region
   go_wp2
   all_goals
    go_roundw
    case rel =>
     refine ⟨j + 1, by omega, by go_num, ?_, ?_, ?_, xt, by simp [World.setCell]; omega⟩
     · refine Blk.ext (w := wr.setCell ⟨w.heap.size + 1, j, none⟩ _) ?_ xt
       have e : ∀ z v : Int, v = z → Blk (wr.setCell ⟨w.heap.size + 1, j, none⟩ (.int .i64 z)) (w.heap.size + 1) 3 (ints (mix (addL 4 p x y) (List.replicate x.length 0) (j + 1))) → Blk (wr.setCell ⟨w.heap.size + 1, j, none⟩ (.int .i64 v)) (w.heap.size + 1) 3 (ints (mix (addL 4 p x y) (List.replicate x.length 0) (j + 1))) := fun z v h hh => by subst h; exact hh
       refine e _ _ ?_ HS.out
       simp [add1]
       try (first | omega | (split <;> omega))
     · simp [go_sem, q1]
     · simp [go_sem, q0]
    case measure => simp [RowKit.intOf]; omega
 have : j = x.length := by omega
 subst this
 go_wp2
 go_ret
 have e : mix (addL 4 p x y) (List.replicate x.length 0) x.length = addL 4 p x y := by have := mix_all HFL.out; rwa [List.length_replicate] at this
 rw [e] at hB
 exact ⟨_, rfl, OwnI.mk' HF.out (by omega) hB (Nat.le_trans hc1 hc2), hE⟩
theorem l02Add_5 (p n : Int) (vx vy : Value) (x y : List Int) (w : World) (hvx : IntS w vx x) (hvy : IntS w vy y)
 (hlen : y.length = x.length) (hx : FitK 5 x) (hy : FitK 5 y) (hl64 : x.length ≤ 1048576) :
 Calls Tryz.prog 71 #[ringV 5 p n, vx, vy] w fun e w' => ∃ v', e = .returned v' ∧ OwnI w' w.heap.size v' (addL 5 p x y) ∧ Ext w w' := by
 obtain ⟨ax, capx, rfl, hc1, hc2⟩ := hvx.val
 obtain ⟨ay, capy, rfl, hc3, hc4⟩ := hvy.val
 have hmk := mkInts x.length (by omega)
 have HF := Lib.hid (addL_length (k := 5) (p := p) hlen)
 have HN := Lib.hid hlen; clear hlen
 have HX := Lib.hid hx; clear hx
 have HY := Lib.hid hy; clear hy
 go_enter Tryz.func71, Tryz.ntmps71
 go_wp2
 go_loopw [14] (fun i wr => ∃ j : Nat, j ≤ x.length ∧ i = .int .i64 j ∧ Blk wr (w.heap.size + 1) 3 (ints (mix (addL 5 p x y) (List.replicate x.length 0) j)) ∧ wr.cell? ⟨w.heap.size, 1, none⟩ = some (.int .i64 p) ∧ wr.cell? ⟨w.heap.size, 0, none⟩ = some (.int .i64 5) ∧ Ext w wr ∧ w.heap.size + 1 < wr.heap.size) (fun i _ => x.length - (RowKit.intOf i).toNat)
 case atStart => exact ⟨0, Nat.zero_le _, rfl, by rw [mix_zero]; exact blk_made _ _ _ (by simp), by simp [go_sem], by simp [go_sem], xt, by simp⟩
 obtain ⟨j, hj, rfl, hB, q1, q0, hE, hsz⟩ := hrel
 have HE := hE
 have hfl : (addL 5 p x y).length = (List.replicate x.length (0 : Int)).length := by rw [HF.out]; simp
 have HFL := Lib.hid hfl; clear hfl
 by_cases hlt : j < x.length
 · obtain ⟨b, off, a, rfl, hcx, ha, _⟩ := (hvx.ext hE).get hlt
   obtain ⟨b2, off2, c2, rfl, hcy, hyj, _⟩ := (hvy.ext hE).get (i := j) (by have := HN.out; omega)
   obtain ⟨a0, a1⟩ := HX.out.1.get ha
   obtain ⟨b0, b1⟩ := HY.out.1.get hyj
   have hlt2 : j < y.length := by have := HN.out; omega
   have hm : (mix (addL 5 p x y) (List.replicate x.length 0) j)[j]? = some 0 := by rw [mix_get HFL.out (by simpa using hlt)]; simp [hlt]
   have ho := hB.cell (j := j) (u := .int .i64 0) (by rw [ints_get, hm]; rfl)
   have hfr := hB.free j
   have hl1 := World.block_lt_of_cell? wr _ hcx
   have hl2 := World.block_lt_of_cell? wr _ hcy
   have hw1 := World.block_lt_of_cell? wr _ ho
   have hf : (addL 5 p x y)[j]? = some (add1 5 p a c2) := by unfold addL; rw [zip_get ha hyj]
   have hone : True := trivial
   have HO := Lib.hid hone; clear hone
   have hset := hB.set j (.int .i64 (add1 5 p a c2))
   rw [ints_set, mix_set HFL.out hf] at hset
   have HS := Lib.hid hset
   clear hset hf hm ha hyj
   go_wp2
   go_region
   go_wp2
   all_goals
    go_roundw
    case rel =>
     refine ⟨j + 1, by omega, by go_num, ?_, ?_, ?_, xt, by simp [World.setCell]; omega⟩
     · refine Blk.ext (w := wr.setCell ⟨w.heap.size + 1, j, none⟩ _) ?_ xt
       have e : ∀ z v : Int, v = z → Blk (wr.setCell ⟨w.heap.size + 1, j, none⟩ (.int .i64 z)) (w.heap.size + 1) 3 (ints (mix (addL 5 p x y) (List.replicate x.length 0) (j + 1))) → Blk (wr.setCell ⟨w.heap.size + 1, j, none⟩ (.int .i64 v)) (w.heap.size + 1) 3 (ints (mix (addL 5 p x y) (List.replicate x.length 0) (j + 1))) := fun z v h hh => by subst h; exact hh
       refine e _ _ ?_ HS.out
       simp [add1]
       try (first | omega | (split <;> omega))
     · simp [go_sem, q1]
     · simp [go_sem, q0]
    case measure => simp [RowKit.intOf]; omega
 have : j = x.length := by omega
 subst this
 go_wp2
 go_ret
 have e : mix (addL 5 p x y) (List.replicate x.length 0) x.length = addL 5 p x y := by have := mix_all HFL.out; rwa [List.length_replicate] at this
 rw [e] at hB
 exact ⟨_, rfl, OwnI.mk' HF.out (by omega) hB (Nat.le_trans hc1 hc2), hE⟩
theorem l02Add_6 (p n : Int) (vx vy : Value) (x y : List Int) (w : World) (hvx : IntS w vx x) (hvy : IntS w vy y)
 (hlen : y.length = x.length) (hx : FitK 6 x) (hy : FitK 6 y) (hl64 : x.length ≤ 1048576) :
 Calls Tryz.prog 71 #[ringV 6 p n, vx, vy] w fun e w' => ∃ v', e = .returned v' ∧ OwnI w' w.heap.size v' (addL 6 p x y) ∧ Ext w w' := by
 obtain ⟨ax, capx, rfl, hc1, hc2⟩ := hvx.val
 obtain ⟨ay, capy, rfl, hc3, hc4⟩ := hvy.val
 have hmk := mkInts x.length (by omega)
 have HF := Lib.hid (addL_length (k := 6) (p := p) hlen)
 have HN := Lib.hid hlen; clear hlen
 have HX := Lib.hid hx; clear hx
 have HY := Lib.hid hy; clear hy
 go_enter Tryz.func71, Tryz.ntmps71
 go_wp2
 go_loopw [14] (fun i wr => ∃ j : Nat, j ≤ x.length ∧ i = .int .i64 j ∧ Blk wr (w.heap.size + 1) 3 (ints (mix (addL 6 p x y) (List.replicate x.length 0) j)) ∧ wr.cell? ⟨w.heap.size, 1, none⟩ = some (.int .i64 p) ∧ wr.cell? ⟨w.heap.size, 0, none⟩ = some (.int .i64 6) ∧ Ext w wr ∧ w.heap.size + 1 < wr.heap.size) (fun i _ => x.length - (RowKit.intOf i).toNat)
 case atStart => exact ⟨0, Nat.zero_le _, rfl, by rw [mix_zero]; exact blk_made _ _ _ (by simp), by simp [go_sem], by simp [go_sem], xt, by simp⟩
 obtain ⟨j, hj, rfl, hB, q1, q0, hE, hsz⟩ := hrel
 have HE := hE
 have hfl : (addL 6 p x y).length = (List.replicate x.length (0 : Int)).length := by rw [HF.out]; simp
 have HFL := Lib.hid hfl; clear hfl
 by_cases hlt : j < x.length
 · obtain ⟨b, off, a, rfl, hcx, ha, _⟩ := (hvx.ext hE).get hlt
   obtain ⟨b2, off2, c2, rfl, hcy, hyj, _⟩ := (hvy.ext hE).get (i := j) (by have := HN.out; omega)
   obtain ⟨a0, a1⟩ := HX.out.1.get ha
   obtain ⟨b0, b1⟩ := HY.out.1.get hyj
   have hlt2 : j < y.length := by have := HN.out; omega
   have hm : (mix (addL 6 p x y) (List.replicate x.length 0) j)[j]? = some 0 := by rw [mix_get HFL.out (by simpa using hlt)]; simp [hlt]
   have ho := hB.cell (j := j) (u := .int .i64 0) (by rw [ints_get, hm]; rfl)
   have hfr := hB.free j
   have hl1 := World.block_lt_of_cell? wr _ hcx
   have hl2 := World.block_lt_of_cell? wr _ hcy
   have hw1 := World.block_lt_of_cell? wr _ ho
   have hf : (addL 6 p x y)[j]? = some (add1 6 p a c2) := by unfold addL; rw [zip_get ha hyj]
   have hone : True := trivial
   have HO := Lib.hid hone; clear hone
   have hset := hB.set j (.int .i64 (add1 6 p a c2))
   rw [ints_set, mix_set HFL.out hf] at hset
   have HS := Lib.hid hset
   clear hset hf hm ha hyj
   go_wp2
   go_region
   go_wp2
   all_goals
    go_roundw
    case rel =>
     refine ⟨j + 1, by omega, by go_num, ?_, ?_, ?_, xt, by simp [World.setCell]; omega⟩
     · refine Blk.ext (w := wr.setCell ⟨w.heap.size + 1, j, none⟩ _) ?_ xt
       have e : ∀ z v : Int, v = z → Blk (wr.setCell ⟨w.heap.size + 1, j, none⟩ (.int .i64 z)) (w.heap.size + 1) 3 (ints (mix (addL 6 p x y) (List.replicate x.length 0) (j + 1))) → Blk (wr.setCell ⟨w.heap.size + 1, j, none⟩ (.int .i64 v)) (w.heap.size + 1) 3 (ints (mix (addL 6 p x y) (List.replicate x.length 0) (j + 1))) := fun z v h hh => by subst h; exact hh
       refine e _ _ ?_ HS.out
       simp [add1]
       try (first | omega | (split <;> omega))
     · simp [go_sem, q1]
     · simp [go_sem, q0]
    case measure => simp [RowKit.intOf]; omega
 have : j = x.length := by omega
 subst this
 go_wp2
 go_ret
 have e : mix (addL 6 p x y) (List.replicate x.length 0) x.length = addL 6 p x y := by have := mix_all HFL.out; rwa [List.length_replicate] at this
 rw [e] at hB
 exact ⟨_, rfl, OwnI.mk' HF.out (by omega) hB (Nat.le_trans hc1 hc2), hE⟩
theorem l02Add_7 (p n : Int) (vx vy : Value) (x y : List Int) (w : World) (hvx : IntS w vx x) (hvy : IntS w vy y)
 (hlen : y.length = x.length) (hx : FitK 7 x) (hy : FitK 7 y) (hp1 : 1 ≤ p) (hp2 : p ≤ 1048576) (hl64 : x.length ≤ 1048576) :
 Calls Tryz.prog 71 #[ringV 7 p n, vx, vy] w fun e w' => ∃ v', e = .returned v' ∧ OwnI w' w.heap.size v' (addL 7 p x y) ∧ Ext w w' := by
 obtain ⟨ax, capx, rfl, hc1, hc2⟩ := hvx.val
 obtain ⟨ay, capy, rfl, hc3, hc4⟩ := hvy.val
 have hmk := mkInts x.length (by omega)
 have HF := Lib.hid (addL_length (k := 7) (p := p) hlen)
 have HN := Lib.hid hlen; clear hlen
 have HX := Lib.hid hx; clear hx
 have HY := Lib.hid hy; clear hy
 go_enter Tryz.func71, Tryz.ntmps71
 go_wp2
 go_loopw [14] (fun i wr => ∃ j : Nat, j ≤ x.length ∧ i = .int .i64 j ∧ Blk wr (w.heap.size + 1) 3 (ints (mix (addL 7 p x y) (List.replicate x.length 0) j)) ∧ wr.cell? ⟨w.heap.size, 1, none⟩ = some (.int .i64 p) ∧ wr.cell? ⟨w.heap.size, 0, none⟩ = some (.int .i64 7) ∧ Ext w wr ∧ w.heap.size + 1 < wr.heap.size) (fun i _ => x.length - (RowKit.intOf i).toNat)
 case atStart => exact ⟨0, Nat.zero_le _, rfl, by rw [mix_zero]; exact blk_made _ _ _ (by simp), by simp [go_sem], by simp [go_sem], xt, by simp⟩
 obtain ⟨j, hj, rfl, hB, q1, q0, hE, hsz⟩ := hrel
 have HE := hE
 have hfl : (addL 7 p x y).length = (List.replicate x.length (0 : Int)).length := by rw [HF.out]; simp
 have HFL := Lib.hid hfl; clear hfl
 by_cases hlt : j < x.length
 · obtain ⟨b, off, a, rfl, hcx, ha, _⟩ := (hvx.ext hE).get hlt
   obtain ⟨b2, off2, c2, rfl, hcy, hyj, _⟩ := (hvy.ext hE).get (i := j) (by have := HN.out; omega)
   obtain ⟨a0, a1⟩ := HX.out.1.get ha
   obtain ⟨b0, b1⟩ := HY.out.1.get hyj
   have hlt2 : j < y.length := by have := HN.out; omega
   have hm : (mix (addL 7 p x y) (List.replicate x.length 0) j)[j]? = some 0 := by rw [mix_get HFL.out (by simpa using hlt)]; simp [hlt]
   have ho := hB.cell (j := j) (u := .int .i64 0) (by rw [ints_get, hm]; rfl)
   have hfr := hB.free j
   have hl1 := World.block_lt_of_cell? wr _ hcx
   have hl2 := World.block_lt_of_cell? wr _ hcy
   have hw1 := World.block_lt_of_cell? wr _ ho
   have hf : (addL 7 p x y)[j]? = some (add1 7 p a c2) := by unfold addL; rw [zip_get ha hyj]
   have hone : True := trivial
   have HO := Lib.hid hone; clear hone
   have hset := hB.set j (.int .i64 (add1 7 p a c2))
   rw [ints_set, mix_set HFL.out hf] at hset
   have HS := Lib.hid hset
   clear hset hf hm ha hyj
   go_wp2
   go_region
   go_wp2
   all_goals
    go_roundw
    case rel =>
     refine ⟨j + 1, by omega, by go_num, ?_, ?_, ?_, xt, by simp [World.setCell]; omega⟩
     · refine Blk.ext (w := wr.setCell ⟨w.heap.size + 1, j, none⟩ _) ?_ xt
       have e : ∀ z v : Int, v = z → Blk (wr.setCell ⟨w.heap.size + 1, j, none⟩ (.int .i64 z)) (w.heap.size + 1) 3 (ints (mix (addL 7 p x y) (List.replicate x.length 0) (j + 1))) → Blk (wr.setCell ⟨w.heap.size + 1, j, none⟩ (.int .i64 v)) (w.heap.size + 1) 3 (ints (mix (addL 7 p x y) (List.replicate x.length 0) (j + 1))) := fun z v h hh => by subst h; exact hh
       refine e _ _ ?_ HS.out
       simp [add1]
       try (first | omega | (split <;> omega))
     · simp [go_sem, q1]
     · simp [go_sem, q0]
    case measure => simp [RowKit.intOf]; omega
 have : j = x.length := by omega
 subst this
 go_wp2
 go_ret
 have e : mix (addL 7 p x y) (List.replicate x.length 0) x.length = addL 7 p x y := by have := mix_all HFL.out; rwa [List.length_replicate] at this
 rw [e] at hB
 exact ⟨_, rfl, OwnI.mk' HF.out (by omega) hB (Nat.le_trans hc1 hc2), hE⟩
theorem l02Add_8 (p n : Int) (vx vy : Value) (x y : List Int) (w : World) (hvx : IntS w vx x) (hvy : IntS w vy y)
 (hlen : y.length = x.length) (hx : FitK 8 x) (hy : FitK 8 y) (hp1 : 1 ≤ p) (hp2 : p ≤ 1048576) (hl64 : x.length ≤ 1048576) :
 Calls Tryz.prog 71 #[ringV 8 p n, vx, vy] w fun e w' => ∃ v', e = .returned v' ∧ OwnI w' w.heap.size v' (addL 8 p x y) ∧ Ext w w' := by
 obtain ⟨ax, capx, rfl, hc1, hc2⟩ := hvx.val
 obtain ⟨ay, capy, rfl, hc3, hc4⟩ := hvy.val
 have hmk := mkInts x.length (by omega)
 have HF := Lib.hid (addL_length (k := 8) (p := p) hlen)
 have HN := Lib.hid hlen; clear hlen
 have HX := Lib.hid hx; clear hx
 have HY := Lib.hid hy; clear hy
 go_enter Tryz.func71, Tryz.ntmps71
 go_wp2
 go_loopw [14] (fun i wr => ∃ j : Nat, j ≤ x.length ∧ i = .int .i64 j ∧ Blk wr (w.heap.size + 1) 3 (ints (mix (addL 8 p x y) (List.replicate x.length 0) j)) ∧ wr.cell? ⟨w.heap.size, 1, none⟩ = some (.int .i64 p) ∧ wr.cell? ⟨w.heap.size, 0, none⟩ = some (.int .i64 8) ∧ Ext w wr ∧ w.heap.size + 1 < wr.heap.size) (fun i _ => x.length - (RowKit.intOf i).toNat)
 case atStart => exact ⟨0, Nat.zero_le _, rfl, by rw [mix_zero]; exact blk_made _ _ _ (by simp), by simp [go_sem], by simp [go_sem], xt, by simp⟩
 obtain ⟨j, hj, rfl, hB, q1, q0, hE, hsz⟩ := hrel
 have HE := hE
 have hfl : (addL 8 p x y).length = (List.replicate x.length (0 : Int)).length := by rw [HF.out]; simp
 have HFL := Lib.hid hfl; clear hfl
 by_cases hlt : j < x.length
 · obtain ⟨b, off, a, rfl, hcx, ha, _⟩ := (hvx.ext hE).get hlt
   obtain ⟨b2, off2, c2, rfl, hcy, hyj, _⟩ := (hvy.ext hE).get (i := j) (by have := HN.out; omega)
   obtain ⟨a0, a1⟩ := HX.out.1.get ha
   obtain ⟨b0, b1⟩ := HY.out.1.get hyj
   have hlt2 : j < y.length := by have := HN.out; omega
   have hm : (mix (addL 8 p x y) (List.replicate x.length 0) j)[j]? = some 0 := by rw [mix_get HFL.out (by simpa using hlt)]; simp [hlt]
   have ho := hB.cell (j := j) (u := .int .i64 0) (by rw [ints_get, hm]; rfl)
   have hfr := hB.free j
   have hl1 := World.block_lt_of_cell? wr _ hcx
   have hl2 := World.block_lt_of_cell? wr _ hcy
   have hw1 := World.block_lt_of_cell? wr _ ho
   have hf : (addL 8 p x y)[j]? = some (add1 8 p a c2) := by unfold addL; rw [zip_get ha hyj]
   have hone : True := trivial
   have HO := Lib.hid hone; clear hone
   have hset := hB.set j (.int .i64 (add1 8 p a c2))
   rw [ints_set, mix_set HFL.out hf] at hset
   have HS := Lib.hid hset
   clear hset hf hm ha hyj
   go_wp2
   go_region
   go_wp2
   all_goals
    go_roundw
    case rel =>
     refine ⟨j + 1, by omega, by go_num, ?_, ?_, ?_, xt, by simp [World.setCell]; omega⟩
     · refine Blk.ext (w := wr.setCell ⟨w.heap.size + 1, j, none⟩ _) ?_ xt
       have e : ∀ z v : Int, v = z → Blk (wr.setCell ⟨w.heap.size + 1, j, none⟩ (.int .i64 z)) (w.heap.size + 1) 3 (ints (mix (addL 8 p x y) (List.replicate x.length 0) (j + 1))) → Blk (wr.setCell ⟨w.heap.size + 1, j, none⟩ (.int .i64 v)) (w.heap.size + 1) 3 (ints (mix (addL 8 p x y) (List.replicate x.length 0) (j + 1))) := fun z v h hh => by subst h; exact hh
       refine e _ _ ?_ HS.out
       simp [add1]
       try (first | omega | (split <;> omega))
     · simp [go_sem, q1]
     · simp [go_sem, q0]
    case measure => simp [RowKit.intOf]; omega
 have : j = x.length := by omega
 subst this
 go_wp2
 go_ret
 have e : mix (addL 8 p x y) (List.replicate x.length 0) x.length = addL 8 p x y := by have := mix_all HFL.out; rwa [List.length_replicate] at this
 rw [e] at hB
 exact ⟨_, rfl, OwnI.mk' HF.out (by omega) hB (Nat.le_trans hc1 hc2), hE⟩
theorem l02Add_any (k p n : Int) (vx vy : Value) (x y : List Int) (w : World) (hr : ringOk k p n = true) (hvx : IntS w vx x) (hvy : IntS w vy y)
    (hx : rawOk k p n x = true) (hy : rawOk k p n y = true) :
    Calls Tryz.prog 71 #[ringV k p n, vx, vy] w fun e w' => ∃ v', e = .returned v' ∧ OwnI w' w.heap.size v' (addL k p x y) ∧ Ext w w' := by
  obtain ⟨fx, lx⟩ := rawOk_fit hr hx
  obtain ⟨fy, ly⟩ := rawOk_fit hr hy
  have hl : y.length = x.length := by omega
  have hw := (ringOk_wide hr).hi
  have h64 : x.length ≤ 1048576 := by omega
  have hp := fun h => ringOk_pos hr h
  rcases kinds k with rfl | rfl | rfl | rfl | rfl | rfl | rfl | rfl | ⟨e1, e2, e3, e4, e5, e6, e7, e8⟩
  · exact l02Add_1 p n vx vy x y w hvx hvy hl fx fy h64
  · obtain ⟨h1, h2⟩ := hp (by omega)
    exact l02Add_2 p n vx vy x y w hvx hvy hl fx fy h1 (by omega) h64
  · exact l02Add_3 p n vx vy x y w hvx hvy hl fx fy h64
  · exact l02Add_4 p n vx vy x y w hvx hvy hl fx fy h64
  · exact l02Add_5 p n vx vy x y w hvx hvy hl fx fy h64
  · exact l02Add_6 p n vx vy x y w hvx hvy hl fx fy h64
  · obtain ⟨h1, h2⟩ := hp (by omega)
    exact l02Add_7 p n vx vy x y w hvx hvy hl fx fy h1 (by omega) h64
  · obtain ⟨h1, h2⟩ := hp (by omega)
    exact l02Add_8 p n vx vy x y w hvx hvy hl fx fy h1 (by omega) h64
  · simp [ringOk, *] at hr
theorem addInto_any (k p n : Int) (b off cap : Nat) (c : List Value) (vy : Value) (x y : List Int) (w : World) (hr : ringOk k p n = true) (hP : Part w b off c x) (hvy : IntS w vy y) (hne : vy.ownBlock ≠ some b)
    (hx : rawOk k p n x = true) (hy : rawOk k p n y = true) :
    Calls Tryz.prog 43 #[ringV k p n, .slice (some ⟨b, off, none⟩) x.length cap, vy] w fun e w' =>
      e = .returned (.tuple #[]) ∧ Blk w' b 3 (splice c off (ints (addL k p x y))) ∧ w.grownBy w' (some b) := by
  obtain ⟨fx, lx⟩ := rawOk_fit hr hx
  obtain ⟨fy, ly⟩ := rawOk_fit hr hy
  have hw := (ringOk_wide hr).hi
  by_cases hk : k = 2 ∨ k = 7 ∨ k = 8
  · obtain ⟨h1, h2⟩ := ringOk_pos hr (by omega)
    exact addInto_many k p n b off cap c vy x y w hk hP hvy hne (by omega) fx.1 fy.1 h1 (by omega) (by omega)
  · have hk2 : k = 1 ∨ k = 3 ∨ k = 4 ∨ k = 5 ∨ k = 6 := by
      rcases kinds k with rfl | rfl | rfl | rfl | rfl | rfl | rfl | rfl | ⟨e1, e2, e3, e4, e5, e6, e7, e8⟩
      all_goals first | omega | (simp [ringOk, *] at hr)
    have hw1 : ringWidth k n = 1 := by
      have h7 : ¬ k = 7 := by omega
      have h8 : ¬ k = 8 := by omega
      simp [ringWidth, h7, h8]
    obtain ⟨a, rfl⟩ : ∃ a, x = [a] := List.length_eq_one_iff.1 (by omega)
    obtain ⟨a2, rfl⟩ : ∃ a, y = [a] := List.length_eq_one_iff.1 (by omega)
    exact addInto_one k p n a a2 b off cap c vy w hk2 hP hvy hne (fx.1 a (by simp)) (fy.1 a2 (by simp))
end Go.Proofs.YtlgjddgajdjllaaGreat
