/- nextIndex, dotOf, axisOf, equalInts of the program. -/
import Derived.Test.YtlgjddgajdjllaaGreatHTenW
set_option linter.unusedSimpArgs false
set_option linter.unusedVariables false
namespace Go.Proofs.YtlgjddgajdjllaaGreat
open Go.RowKit
theorem nextI_length : ∀ {D I : List Int}, D.length = I.length → (nextI D I).1.length = I.length
  | [], [], _ => rfl
  | d :: D, i :: I, h => by
    have ih := nextI_length (D := D) (I := I) (by simpa using h)
    rw [nextI]
    split
    · simp [ih]
    · split <;> simp [ih]
theorem nextI_up : ∀ {D I J : List Int} {j : Nat}, D.length = I.length → j ≤ D.length → nextI (D.drop j) (I.drop j) = (J, true) → nextI D I = (I.take j ++ J, true)
  | D, I, J, 0, _, _, h => by simpa using h
  | [], _, J, j + 1, _, hj, _ => by simp at hj
  | d :: D, [], J, j + 1, hl, _, _ => by simp at hl
  | d :: D, i :: I, J, j + 1, hl, hj, h => by
    have ih := nextI_up (D := D) (I := I) (J := J) (j := j) (by simpa using hl) (by simpa using hj) (by simpa using h)
    rw [nextI, ih]
    simp
theorem take_snoc_get {I J : List Int} {m : Nat} {y : Int} (h : I[m]? = some y) : (I.take (m + 1) ++ J)[m]? = some y := by
  obtain ⟨hm, rfl⟩ := List.getElem?_eq_some_iff.1 h
  rw [List.getElem?_append_left (by rw [List.length_take]; omega), List.getElem?_take_of_lt (by omega)]
  exact List.getElem?_eq_getElem hm
theorem take_snoc_set {I J : List Int} {m : Nat} (h : m < I.length) (x : Int) : (I.take (m + 1) ++ J).set m x = I.take m ++ x :: J := by
  have e : (I.take m).length = m := by rw [List.length_take]; omega
  rw [List.take_succ_eq_append_getElem h, List.append_assoc, List.set_append_right _ _ (by omega), e, Nat.sub_self]; rfl
theorem take_cons_set {I J : List Int} {m : Nat} (h : m < I.length) (z x : Int) : (I.take m ++ z :: J).set m x = I.take m ++ x :: J := by
  have e : (I.take m).length = m := by rw [List.length_take]; omega
  rw [List.set_append_right _ _ (by omega), e, Nat.sub_self]; rfl
set_option maxHeartbeats 1000000 in
theorem nextIndex_any (B : Nat) (vD vI : Value) (D I : List Int) (w : World) (hD : IntS w vD D) (hI : OwnI w B vI I) (hl : D.length = I.length) (hs : ∀ x ∈ I, 0 ≤ x ∧ x ≤ 1048576) (hne : ∀ q, vI.ownBlock = some q → vD.ownBlock ≠ some q) :
 Calls Tryz.prog 44 #[vD, vI] w fun e w' =>
  e = .returned (.bool (nextI D I).2) ∧ OwnI w' B vI (nextI D I).1 ∧ w.grownBy w' vI.ownBlock := by
 obtain ⟨aD, cD, rfl, hcD, hdD⟩ := hD.val
 obtain ⟨aI, cI, rfl, hcI, hdI⟩ := hI.ints.val
 have HL := Lib.hid hl; clear hl
 have HS := Lib.hid hs; clear hs
 have HN := Lib.hid hne; clear hne
 go_enter Tryz.func44, Tryz.ntmps44
 go_wp2
 go_loopw [5] (fun i wr => ∃ (j : Nat) (x : Int) (J : List Int), j ≤ D.length ∧ x = (j : Int) - 1 ∧ i = .int .i64 x ∧ Hid (nextI (D.drop j) (I.drop j) = (J, false)) ∧ OwnI wr B (.slice aI I.length cI) (I.take j ++ J) ∧ w.grownBy wr (Value.slice aI I.length cI).ownBlock) (fun i wr => (RowKit.intOf i + 1).toNat)
 case atStart => exact ⟨D.length, _, [], Nat.le_refl _, by omega, rfl, Lib.hid (by rw [drop_len, HL.out, drop_len]; rfl), by rw [List.append_nil, List.take_of_length_le (by rw [HL.out]; exact Nat.le_refl _)]; exact hI, grown_refl _ _⟩
 obtain ⟨j, x, J, hj, hx, rfl, HJ, hO, hG⟩ := hrel
 rcases Nat.eq_zero_or_pos j with rfl | hj0
 · obtain rfl : x = -1 := by omega
   have h := HJ.out
   rw [List.drop_zero, List.drop_zero] at h
   have HH := Lib.hid h; clear h hx
   rw [List.take_zero, List.nil_append] at hO
   go_wp2
   go_ret
   rw [HH.out]
   exact ⟨rfl, hO, hG⟩
 obtain ⟨m, rfl⟩ : ∃ m, j = m + 1 := ⟨j - 1, by omega⟩
 obtain rfl : x = (m : Int) := by omega
 clear hx hj0
 have hmI : m < I.length := by have := HL.out; omega
 obtain ⟨y, hy⟩ : ∃ y, I[m]? = some y := ⟨_, List.getElem?_eq_getElem hmI⟩
 obtain ⟨y0, y1⟩ := HS.out y (List.mem_of_getElem? hy)
 have hyd : I.drop m = y :: I.drop (m + 1) := by rw [List.drop_eq_getElem_cons hmI]; congr 1; rw [List.getElem?_eq_getElem hmI] at hy; exact Option.some.inj hy
 have hJl := nextI_length (D := D.drop (m + 1)) (I := I.drop (m + 1)) (by rw [List.length_drop, List.length_drop, HL.out])
 rw [HJ.out, List.length_drop] at hJl
 simp only at hJl
 obtain ⟨bI, cc, hbI, hvv, hc1, hc2⟩ := hO.open (by rw [List.length_append, List.length_take]; omega)
 have hll : (I.take (m + 1) ++ J).length = I.length := by rw [List.length_append, List.length_take]; omega
 rw [hll] at hvv hc1
 cases hvv
 obtain ⟨hcy, hfy⟩ := hO.cell (take_snoc_get (J := J) hy)
 have hset := hO.set m (by omega) (y + 1)
 rw [take_snoc_set hmI] at hset
 have hset2 : ∀ q : Nat, OwnI (((wr.setCell ⟨bI, m, none⟩ (.int .i64 (y + 1))).drewN q).setCell ⟨bI, m, none⟩ (.int .i64 0)) B (.slice (some ⟨bI, 0, none⟩) I.length cI) (I.take m ++ 0 :: J) := fun q => by
  have h := (hset.ext ((Ext.refl _).drewN q)).set m (by rw [List.length_append, List.length_take, List.length_cons]; omega) 0
  rwa [take_cons_set hmI] at h
 have hnb : (Value.slice aD D.length cD).ownBlock ≠ some bI := HN.out bI rfl
 obtain ⟨b2, off2, z, rfl, hcz, hz, hdz⟩ := (hD.only hG hnb).get (i := m) (by omega)
 have hne2 : b2 ≠ bI := by simpa [Value.ownBlock] using hnb
 have hbl := hO.block_lt (k := bI) rfl
 have hG0 : w.grownBy wr (some bI) := hG
 have HR : Hid (nextI (D.drop m) (I.drop m) = if y + 1 < z then ((y + 1) :: J, true) else (0 :: J, false)) := Lib.hid (by rw [hyd, hdz, nextI, HJ.out]; simp)
 have HU := fun J' h => nextI_up (J := J') HL.out (show m ≤ D.length by omega) h
 have HUU := Lib.hid HU; clear HU
 have HA := Lib.hid hset; have HB := Lib.hid hset2
 clear hset hset2 hll hJl hyd hdz hy hz
 by_cases hlt : y + 1 < z
 · have hR := HR.out
   rw [if_pos hlt] at hR
   have hU := HUU.out _ hR
   have HUU2 := Lib.hid hU; clear hU hR
   go_wp2
   go_quiet (fail)
   go_wp2
   go_ret
   rw [HUU2.out]
   exact ⟨rfl, HA.out.ext xt, grown_drewN (grown_setCell hG0 _ _) _⟩
 have hR := HR.out
 rw [if_neg hlt] at hR
 have HRR := Lib.hid hR; clear hR
 go_wp2
 go_quiet (fail)
 go_wp2
 go_roundw
 case rel => exact ⟨m, _, 0 :: J, by omega, by omega, rfl, HRR, HB.out _, grown_setCell (grown_drewN (grown_setCell hG0 _ _) _) _ _⟩
 case measure => simp [RowKit.intOf]
theorem nonneg_dot : ∀ {a b : List Int}, (∀ x ∈ a, 0 ≤ x) → (∀ x ∈ b, 0 ≤ x) → 0 ≤ dotL a b
  | [], _, _, _ => by simp [dotL]
  | x :: a, [], _, _ => by simp [dotL]
  | x :: a, y :: b, ha, hb => by
    have h1 := nonneg_dot (a := a) (b := b) (fun z hz => ha z (by simp [hz])) (fun z hz => hb z (by simp [hz]))
    have h2 := Int.mul_nonneg (ha x (by simp)) (hb y (by simp))
    rw [dotL]; omega
theorem dotOf_any (va vb : Value) (a b : List Int) (w : World) (ha : IntS w va a) (hb : IntS w vb b) (hl : a.length = b.length) (ha0 : ∀ x ∈ a, 0 ≤ x) (hb0 : ∀ x ∈ b, 0 ≤ x) (hd : dotL a b ≤ 1048576) :
 Calls Tryz.prog 42 #[va, vb] w fun e w' => e = .returned (.int .i64 (dotL a b)) ∧ ∃ n, w' = w.drewN n := by
 obtain ⟨aA, cA, rfl, hcA, hdA⟩ := ha.val
 obtain ⟨aB, cB, rfl, hcB, hdB⟩ := hb.val
 have HL := Lib.hid hl; clear hl
 have HA := Lib.hid ha0; clear ha0
 have HB := Lib.hid hb0; clear hb0
 have HD := Lib.hid hd; clear hd
 go_enter Tryz.func42, Tryz.ntmps42
 go_wp2
 go_loopw [5, 9] (fun q i wr => ∃ (j : Nat) (n : Int), j ≤ a.length ∧ i = .int .i64 j ∧ q = .int .i64 n ∧ 0 ≤ n ∧ Hid (n + dotL (a.drop j) (b.drop j) = dotL a b) ∧ ∃ m, wr = w.drewN m) (fun _ i _ => a.length - (RowKit.intOf i).toNat)
 case atStart => exact ⟨0, 0, Nat.zero_le _, rfl, rfl, by omega, Lib.hid (by simp), 0, rfl⟩
 obtain ⟨j, n, hj, rfl, rfl, hn0, HQ, m, rfl⟩ := hrel
 by_cases hlt : j < a.length
 · obtain ⟨b1, off1, x, rfl, hcx, hx, hxd⟩ := ha.get hlt
   obtain ⟨b2, off2, y, rfl, hcy, hy, hyd⟩ := hb.get (i := j) (by have := HL.out; omega)
   have x0 := HA.out x (List.mem_of_getElem? hx)
   have y0 := HB.out y (List.mem_of_getElem? hy)
   have p0 := Int.mul_nonneg x0 y0
   have p1 := nonneg_dot (a := a.drop (j + 1)) (b := b.drop (j + 1)) (fun z hz => HA.out z (List.mem_of_mem_drop hz)) (fun z hz => HB.out z (List.mem_of_mem_drop hz))
   have hq := HQ.out
   rw [hxd, hyd, dotL] at hq
   have p2 : n + x * y ≤ 1048576 := by have := HD.out; omega
   have p3 : x * y ≤ 1048576 := by omega
   have HQ2 : Hid ((n + x * y) + dotL (a.drop (j + 1)) (b.drop (j + 1)) = dotL a b) := Lib.hid (by omega)
   have hjb : j < b.length := by have := HL.out; omega
   clear hq p1 hx hy hxd hyd
   go_wp2
   go_quiet (fail)
   go_wp2
   go_roundw
   case rel => exact ⟨j + 1, _, by omega, by go_num, rfl, by omega, HQ2, _, rfl⟩
   case measure => simp [RowKit.intOf]; omega
 have : j = a.length := by omega
 subst this
 go_wp2
 go_ret
 exact ⟨ret_int (by rw [← HQ.out, drop_len]; simp [dotL]), m, rfl⟩
theorem dotOf_ext (va vb : Value) (a b : List Int) (w : World) (ha : IntS w va a) (hb : IntS w vb b) (hl : a.length = b.length) (ha0 : ∀ x ∈ a, 0 ≤ x) (hb0 : ∀ x ∈ b, 0 ≤ x) (hd : dotL a b ≤ 1048576) :
    Calls Tryz.prog 42 #[va, vb] w fun e w' => e = .returned (.int .i64 (dotL a b)) ∧ Ext w w' :=
  (dotOf_any va vb a b w ha hb hl ha0 hb0 hd).mono fun _ _ ⟨he, n, hn⟩ => ⟨he, hn ▸ (Ext.refl w).drewN n⟩
theorem axisOf_any (v : Value) (L D X : List Int) (x : Int) (w : World) (hv : TenS w v L D X) : Calls Tryz.prog 81 #[v, .int .i64 x] w fun e w' =>
 e = .returned (.int .i64 (findL L x)) ∧ Ext w w' := by
 obtain ⟨p1, n1, c1, p2, n2, c2, p3, n3, c3, rfl⟩ := hv.shape
 obtain ⟨_, _, _, hvv, hL, hD, hX⟩ := hv.val
 simp at hvv
 obtain ⟨rfl, rfl, rfl⟩ := hvv
 obtain ⟨_, _, e1, hcL, hdL⟩ := hL.val
 simp at e1
 obtain ⟨rfl, rfl, rfl⟩ := e1
 go_enter Tryz.func81, Tryz.ntmps81
 go_wp2
 go_loop [10] (fun i => ∃ j : Nat, j ≤ L.length ∧ i = .int .i64 j ∧ findGo x j (L.drop j) = findL L x) (fun i => L.length - (RowKit.intOf i).toNat)
 case atStart => exact ⟨0, Nat.zero_le _, rfl, rfl⟩
 obtain ⟨j, hj, rfl, hq⟩ := hrel
 have HQ := Lib.hid hq; clear hq
 by_cases hlt : j < L.length
 · obtain ⟨b, off, y, rfl, hcell, hy, hd⟩ := hL.get hlt
   have hbl := World.block_lt_of_cell? _ _ hcell
   have hcell' : (w.alloc (.cells #[.slice (some ⟨b, off, none⟩) L.length c1, .slice p2 n2 c2, .slice p3 n3 c3] 35)).cell? ⟨b, off + j, none⟩ = some (.int .i64 y) := ((Ext.refl w).alloc _).cell hcell
   have hq := HQ.out
   rw [hd, findGo] at hq
   have HQ2 := Lib.hid hq
   clear hq hd hy
   by_cases hxy : y = x
   · subst hxy
     go_wp2
     go_ret
     exact ⟨ret_int (by simpa using HQ2.out), xt⟩
   go_wp2
   go_round
   case rel => exact ⟨j + 1, by omega, by go_num, by have := HQ2.out; rw [if_neg hxy] at this; rw [← this]; congr 1⟩
   case measure => simp [RowKit.intOf]; omega
 have : j = L.length := by omega
 subst this
 go_wp2
 go_ret
 exact ⟨ret_int (by rw [← HQ.out, drop_len]; rfl), xt⟩
set_option maxHeartbeats 400000 in
theorem equalInts_quiet (v u : Value) (l m : List Int) (w : World) (hl : IntS w v l) (hm : IntS w u m) : Calls Tryz.prog 83 #[v, u] w fun e w' =>
 e = .returned (.bool (l == m)) ∧ ∃ n, w' = w.drewN n := by
 obtain ⟨a, cap, rfl, hc1, hc2⟩ := hl.val
 obtain ⟨a2, cap2, rfl, hc3, hc4⟩ := hm.val
 by_cases hne : l.length = m.length
 · have HN := Lib.hid hne; clear hne
   have hne2 : ((l.length : Int) != (m.length : Int)) = false := by rw [bne_eq_false_iff_eq]; have := HN.out; omega
   go_enter Tryz.func83, Tryz.ntmps83
   go_wp2
   go_loopw [13] (fun i wr => ∃ j : Nat, j ≤ l.length ∧ i = .int .i64 j ∧ (l.drop j == m.drop j) = (l == m) ∧ ∃ n, wr = w.drewN n) (fun i _ => l.length - (RowKit.intOf i).toNat)
   case atStart => exact ⟨0, Nat.zero_le _, rfl, rfl, 0, rfl⟩
   obtain ⟨j, hj, rfl, hq, nq, rfl⟩ := hrel
   have HQ := Lib.hid hq; clear hq
   by_cases hlt : j < l.length
   · obtain ⟨b, off, x, rfl, hcell, _, hx⟩ := hl.get hlt
     obtain ⟨b2, off2, y, rfl, hcell2, _, hy⟩ := hm.get (i := j) (by have := HN.out; omega)
     have HX := Lib.hid hx; clear hx
     have HY := Lib.hid hy; clear hy
     have hlt2 : j < m.length := by have := HN.out; omega
     by_cases hxy : x = y
     · subst hxy
       go_wp2
       go_quiet (fail)
       go_wp2
       go_roundw
       case rel => exact ⟨j + 1, by omega, by go_num, by rw [← HQ.out, HX.out, HY.out]; simp, _, rfl⟩
       case measure => simp [RowKit.intOf]; omega
     go_wp2
     go_quiet (fail)
     go_wp2
     go_ret
     exact ⟨ret_bool (by rw [← HQ.out, HX.out, HY.out]; simp [hxy]), _, World.drewN_drewN _ _ _⟩
   have : j = l.length := by omega
   subst this
   go_wp2
   go_ret
   exact ⟨ret_bool (by rw [← HQ.out, drop_len, HN.out, drop_len]; rfl), _, rfl⟩
 · have hne3 : ((l.length : Int) != (m.length : Int)) = true := by rw [bne_iff_ne]; omega
   have hf : (l == m) = false := by
    rw [beq_eq_false_iff_ne]
    intro e; exact hne (by rw [e])
   have HF := Lib.hid hf; clear hf
   go_enter Tryz.func83, Tryz.ntmps83
   go_wp2
   go_ret
   exact ⟨ret_bool HF.out.symm, 0, rfl⟩
end Go.Proofs.YtlgjddgajdjllaaGreat
