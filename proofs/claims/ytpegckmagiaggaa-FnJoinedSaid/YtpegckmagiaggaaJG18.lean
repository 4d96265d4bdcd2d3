/- Texts of one kind, merged by program. -/
import Derived.Test.YtpegckmagiaggaaJCopyA
import Derived.Test.YtpegckmagiaggaaJNetSX
/- Own tensors whose labels turn in place; own tensors appended to own tensors. No program in sight. -/
set_option linter.unusedSimpArgs false
set_option linter.unusedVariables false
namespace Go.Proofs.Ytpegckmagiaggaa
open Go.RowKit
section
variable {ex : Option Nat} {a w w' : World} {L : List Asn} {k k1 k2 : Nat}
theorem HeldX.setTL {v : Value} {b n cap : Nat} {cs : List (Value × Value × Value)} {ts : List Ten3} {c2 c3 : Value} {Lj Dj Xj : List Int} (h : HeldX ex a w L) (h1 : L[k]? = some (aTs v cs ts)) (hap : ApartC cs) {j : Nat} (hc : cs[j]? = some (.slice (some ⟨b, 0, none⟩) n cap, c2, c3)) (ht : ts[j]? = some (Lj, Dj, Xj)) {i : Nat} (hi : i < Lj.length) (x : Int) :
    HeldX ex a (w.setCell ⟨b, i, none⟩ (.int .i64 x)) (L.set k (aTs v cs (ts.set j (Lj.set i x, Dj, Xj)))) := by
  have ho : OwnTs w v cs ts := h.get h1
  obtain ⟨g1, g2, g3⟩ := ho.elem j _ _ hc ht
  have hjl : j < ts.length := (List.getElem?_eq_some_iff.1 ht).1
  have hcm : (Value.slice (some ⟨b, 0, none⟩) n cap, c2, c3) ∈ cs := List.mem_of_getElem? hc
  have hbf : b ∈ fpC (Value.slice (some ⟨b, 0, none⟩) n cap, c2, c3) := mem_fpC.2 (.inl rfl)
  have far : ∀ {u : Value} {l : List Int}, OwnI w 0 u l → (∀ q, u.ownBlock = some q → q ≠ b) → OwnI (w.setCell ⟨b, i, none⟩ (.int .i64 x)) 0 u l := fun o hn => o.near fun q hq => Below.heap_setCell _ _ _ _ (hn q hq)
  refine h.turn h1 (grown_setCell (grown_refl w (some b)) i _) (fun q hq => by cases hq; exact List.mem_append_right _ (List.mem_flatMap.2 ⟨_, hcm, hbf⟩)) ⟨by rw [List.length_set]; exact ho.len, ?_, fun q c t hqc hqt => ?_⟩ fun q hq => .inl hq
  · rw [List.length_set]
    exact ownsRow_near ho.row fun q hq => Below.heap_setCell _ _ _ _ (fun e => ints_not_tens ho.row hq g1 rfl e.symm)
  · by_cases e : q = j
    · subst e
      rw [hc] at hqc
      rw [List.getElem?_set_self hjl] at hqt
      obtain rfl := Option.some.inj hqc
      obtain rfl := Option.some.inj hqt
      have hs := hap.self _ hcm b rfl
      exact ⟨g1.set i hi x, far g2 fun r hr e => hs.1 (e ▸ hr), far g3 fun r hr e => hs.2 (e ▸ hr)⟩
    · rw [List.getElem?_set_ne (Ne.symm e)] at hqt
      obtain ⟨f1, f2, f3⟩ := ho.elem q c t hqc hqt
      have hn : ∀ r, r ∈ fpC c → r ≠ b := fun r hr er => by
        subst er
        rcases Nat.lt_or_gt_of_ne e with hlt | hlt
        · exact (List.pairwise_iff_getElem.1 hap.pair q j (List.getElem?_eq_some_iff.1 hqc).1 (List.getElem?_eq_some_iff.1 hc).1 hlt) r (by rw [(List.getElem?_eq_some_iff.1 hqc).2]; exact hr) (by rw [(List.getElem?_eq_some_iff.1 hc).2]; exact hbf)
        · exact (List.pairwise_iff_getElem.1 hap.pair j q (List.getElem?_eq_some_iff.1 hc).1 (List.getElem?_eq_some_iff.1 hqc).1 hlt) r (by rw [(List.getElem?_eq_some_iff.1 hc).2]; exact hbf) (by rw [(List.getElem?_eq_some_iff.1 hqc).2]; exact hr)
      exact ⟨far f1 fun r hr => hn r (mem_fpC.2 (.inl hr)), far f2 fun r hr => hn r (mem_fpC.2 (.inr (.inl hr))), far f3 fun r hr => hn r (mem_fpC.2 (.inr (.inr hr)))⟩
theorem run_pushTs (ty : TypeId) {v src : Value} {cs cs2 : List (Value × Value × Value)} {ts ts2 : List Ten3} (h : HeldX ex a w L) (h1 : L[k1]? = some (aTs v cs ts)) (h2 : L[k2]? = some (aTs src cs2 ts2)) (hne : k1 ≠ k2) (hb : ts.length + ts2.length ≤ 1099511627) :
    ∃ v' w', (Builtin.append_ #[26, 26] ty #[v, src]).run Try.prog w = .ok v' w' ∧ HeldX ex a w' ((L.set k2 emp).set k1 (aTs v' (cs ++ cs2) (ts ++ ts2))) ∧ w.grownBy w' v.ownBlock := by
  have ho : OwnTs w v cs ts := h.get h1
  have hx : OwnTs w src cs2 ts2 := h.get h2
  obtain ⟨i, hi, hzz⟩ := Option.map_eq_some_iff.1 Try.infoTensor
  simp only [Prod.mk.injEq] at hzz
  obtain ⟨hz, hsz, hby⟩ := hzz
  have one : ∀ u ∈ cs2.flatMap cells3, u.oneCell' = true := fun u hu => by
    obtain ⟨c, hc, hu⟩ := List.mem_flatMap.1 hu
    obtain ⟨q, hq⟩ := List.getElem?_of_mem hc
    have hlt : q < ts2.length := by rw [← hx.len]; exact (List.getElem?_eq_some_iff.1 hq).1
    obtain ⟨g1, g2, g3⟩ := hx.elem q c ts2[q] hq (List.getElem?_eq_getElem hlt)
    obtain ⟨_, _, e1, _⟩ := g1.ints.val
    obtain ⟨_, _, e2, _⟩ := g2.ints.val
    obtain ⟨_, _, e3, _⟩ := g3.ints.val
    simp [cells3] at hu
    rcases hu with rfl | rfl | rfl
    · rw [e1]; rfl
    · rw [e2]; rfl
    · rw [e3]; rfl
  obtain ⟨v', w', e1, e2, e3, e4⟩ := run_app (P := Try.prog) w 0 26 ty 32 i _ 3 72 Try.underlying26 hi hz hsz hby rfl (by omega) v _ _ ho.row src ts2.length _ (ownsRow_row hx.row) one (by unfold maxLen; omega) (by omega) (Nat.zero_le _)
  refine ⟨v', w', e1, h.merge h1 h2 hne e3 (fun b hb => by simp [aTs, hb]) ?_ fun c hc => ?_, e3⟩
  · have far : ∀ {u : Value} {l : List Int}, OwnI w 0 u l → OwnI w' 0 u l := fun {u l} o =>
      o.near fun c hc => by
        refine e3.block c (o.block_lt hc).2 fun e => ?_
        exact ints_not_tens ho.row e.symm o hc rfl
    refine ⟨by simp [ho.len, hx.len], ?_, fun j c t hc ht => ?_⟩
    · rw [List.length_append, List.flatMap_append]
      exact ownsRow_any e2
    · have hl := ho.len
      rcases Nat.lt_or_ge j ts.length with hj | hj
      · rw [List.getElem?_append_left (by omega)] at hc
        rw [List.getElem?_append_left hj] at ht
        obtain ⟨f1, f2, f3⟩ := ho.elem j c t hc ht
        exact ⟨far f1, far f2, far f3⟩
      · rw [List.getElem?_append_right (by omega)] at hc
        rw [List.getElem?_append_right hj] at ht
        rw [show j - cs.length = j - ts.length by omega] at hc
        obtain ⟨f1, f2, f3⟩ := hx.elem _ c t hc ht
        exact ⟨far f1, far f2, far f3⟩
  · rcases List.mem_append.1 hc with hc | hc
    · rcases e4 with e4 | e4
      · exact .inl (List.mem_append_left _ (by rw [← e4]; exact hc))
      · rw [e4] at hc; simp at hc; exact .inr (.inr (by omega))
    · obtain ⟨d, hd, hc⟩ := List.mem_flatMap.1 hc
      rcases List.mem_append.1 hd with hd | hd
      · exact .inl (List.mem_append_right _ (List.mem_flatMap.2 ⟨d, hd, hc⟩))
      · exact .inr (.inl (List.mem_append_right _ (List.mem_flatMap.2 ⟨d, hd, hc⟩)))
end
theorem OwnTs.at {w : World} {a : Option Addr} {n cap : Nat} {cs : List (Value × Value × Value)} {ts : List Ten3} (h : OwnTs w (.slice a n cap) cs ts) {i : Nat} {t : Ten3} (ht : ts[i]? = some t) :
    ∃ b x y z, a = some ⟨b, 0, none⟩ ∧ cs[i]? = some (x, y, z) ∧ w.cell? ⟨b, i * 3, none⟩ = some x ∧ w.cell? ⟨b, i * 3 + 1, none⟩ = some y ∧ w.cell? ⟨b, i * 3 + 2, none⟩ = some z ∧ OwnI w 0 x t.1 ∧ OwnI w 0 y t.2.1 ∧ OwnI w 0 z t.2.2 := by
  have hi : i < ts.length := (List.getElem?_eq_some_iff.1 ht).1
  rcases h.row.2 with ⟨h0, h1⟩ | ⟨g, cap', cur, hv, _⟩
  · omega
  · cases hv
    obtain ⟨x, y, z, h1, h2, h3, h4, h5, h6, h7, _⟩ := h.get ht
    exact ⟨g, x, y, z, rfl, h1, h2, h3, h4, h5, h6, h7⟩
theorem set_sameJ {α : Type} {l : List α} {j : Nat} {x : α} (h : l[j]? = some x) : l.set j x = l := by
  obtain ⟨hj, rfl⟩ := List.getElem?_eq_some_iff.1 h
  exact List.set_getElem_self hj
def renG (f : Int → Int) (l : List Int) (i : Nat) : List Int := (l.take i).map f ++ l.drop i
theorem renG_zero (f : Int → Int) (l : List Int) : renG f l 0 = l := by simp [renG]
theorem renG_all (f : Int → Int) (l : List Int) : renG f l l.length = l.map f := by simp [renG]
theorem renG_length (f : Int → Int) (l : List Int) (i : Nat) : (renG f l i).length = l.length := by simp [renG]; omega
theorem renG_get {f : Int → Int} {l : List Int} {i : Nat} {x : Int} (h : l[i]? = some x) : (renG f l i)[i]? = some x := by
  have hi := (List.getElem?_eq_some_iff.1 h).1
  unfold renG
  rw [List.getElem?_append_right (by rw [List.length_map, List.length_take]; omega), List.length_map, List.length_take, List.getElem?_drop]
  rw [show i + (i - min i l.length) = i by omega]; exact h
theorem renG_set {f : Int → Int} {l : List Int} {i : Nat} {x : Int} (h : l[i]? = some x) : (renG f l i).set i (f x) = renG f l (i + 1) := by
  obtain ⟨hi, hx⟩ := List.getElem?_eq_some_iff.1 h
  unfold renG
  rw [List.set_append_right _ _ (by rw [List.length_map, List.length_take]; omega), List.length_map, List.length_take, show i - min i l.length = 0 by omega, List.drop_eq_getElem_cons hi, List.set_cons_zero, List.take_add_one, h, List.map_append]
  simp
def renTG (f : Int → Int) (ts : List Ten3) (j : Nat) : List Ten3 := (ts.take j).map (fun t => (t.1.map f, t.2)) ++ ts.drop j
theorem renTG_zero (f : Int → Int) (ts : List Ten3) : renTG f ts 0 = ts := by simp [renTG]
theorem renTG_all (f : Int → Int) (ts : List Ten3) : renTG f ts ts.length = ts.map (fun t => (t.1.map f, t.2)) := by simp [renTG]
theorem renTG_get {f : Int → Int} {ts : List Ten3} {j : Nat} {t : Ten3} (h : ts[j]? = some t) : (renTG f ts j)[j]? = some t := by
  have hi := (List.getElem?_eq_some_iff.1 h).1
  unfold renTG
  rw [List.getElem?_append_right (by rw [List.length_map, List.length_take]; omega), List.length_map, List.length_take, List.getElem?_drop]
  rw [show j + (j - min j ts.length) = j by omega]; exact h
theorem renTG_set {f : Int → Int} {ts : List Ten3} {j : Nat} {t : Ten3} (h : ts[j]? = some t) : (renTG f ts j).set j (t.1.map f, t.2) = renTG f ts (j + 1) := by
  obtain ⟨hi, hx⟩ := List.getElem?_eq_some_iff.1 h
  unfold renTG
  rw [List.set_append_right _ _ (by rw [List.length_map, List.length_take]; omega), List.length_map, List.length_take, show j - min j ts.length = 0 by omega, List.drop_eq_getElem_cons hi, List.set_cons_zero, List.take_add_one, h, List.map_append]
  simp
theorem renTG_net {k p n : Int} {f dm dm2 : Int → Int} {ts : List (NT k p n)} (h : ∀ x ∈ occ ts, dm2 (f x) = dm x) : (ts.map (tenOf dm)).map (fun t => (t.1.map f, t.2)) = (renN f ts).map (tenOf dm2) := by
  unfold renN
  rw [List.map_map, List.map_map]
  apply List.map_congr_left
  intro t ht
  unfold tenOf
  simp only [Function.comp_apply, List.map_map, Prod.mk.injEq, true_and, and_true]
  apply List.map_congr_left
  intro x hx
  exact (h x (mem_occ.2 ⟨t, ht, hx⟩)).symm
theorem hasL_ren {f : Int → Int} {U AL : List Int} (hi : ∀ x ∈ U, ∀ y ∈ U, f x = f y → x = y) (hn : AL.Nodup) (hs : ∀ x ∈ AL, x ∈ U) {j : Nat} {x : Int} (hx : AL[j]? = some x) : hasL ((AL.take j).map f) (f x) = false := by
  refine hasL_not.2 fun h => ?_
  obtain ⟨y, hy, e⟩ := List.mem_map.1 h
  have hxy := hi y (hs y (List.mem_of_mem_take hy)) x (hs x (List.mem_of_getElem? hx)) e
  subst hxy
  obtain ⟨q, hq⟩ := List.getElem?_of_mem hy
  have hql : q < j := by
    have := (List.getElem?_eq_some_iff.1 hq).1
    rw [List.length_take] at this; omega
  rw [List.getElem?_take_of_lt hql] at hq
  have := nodup_idx hn hq hx
  omega
set_option maxRecDepth 100000 in
set_option maxHeartbeats 4000000 in
theorem worth_any {k p n : Int} (hr : ringOk k p n = true) {dm : Int → Int} {U : List Int} {ts : List (NT k p n)} {op : List Int} (hN : IsN k p n dm U ts op) (tv ov : Value) (w : World) (hT : TensS w tv (ts.map (tenOf dm))) (hO : IntS w ov op) :
 Calls Try.prog 37 #[.agg #[.int .i64 k, .int .i64 p, .int .i64 n, tv, ov]] w fun e w' => ∃ u, e = .returned u ∧ OwnT w' w.heap.size u op (op.map dm) (flat (netXs hr dm ts op)) ∧ Ext w w' := by
 have hT0 := hT
 have hO0 := hO
 obtain ⟨m, hm⟩ : ∃ m, ts.length = m := ⟨_, rfl⟩
 obtain ⟨aV, cV, rfl, hcT1, hcT2⟩ := hT.val
 obtain ⟨aO, cO, rfl, hcO1, hcO2⟩ := hO.val
 rw [List.length_map, hm] at hT hT0 hcT1
 rw [List.length_map, hm]
 have hm12 : m ≤ 12 := by rw [← hm]; exact hN.len
 have hop12 : op.length ≤ 12 := hN.rank
 have HM := Lib.hid hm; have HR := Lib.hid hr; have HN := Lib.hid hN; have HD3 := Lib.hid hN.dims3; clear hm  hN
 have hTl : Hid ((ts.map (tenOf dm)).length = m) := Lib.hid (by rw [List.length_map]; exact HM.out)
 obtain ⟨RX, hRX⟩ : ∃ q, flat (netXs hr dm ts op) = q := ⟨_, rfl⟩
 rw [hRX]
 have HRX := Lib.hid hRX; clear hRX
 go_enter Try.func37, Try.ntmps37
 go_upto_region 1 with fail
 have hH : Held w w [] := Held.new (Ext.refl w) 0
 have hB : Held w (w.alloc (.cells #[.int .i64 k, .int .i64 p, .int .i64 n, .slice aV m cV, .slice aO op.length cO] 29)) [aB (w.heap.size) 29 [.int .i64 k, .int .i64 p, .int .i64 n, .slice aV m cV, .slice aO op.length cO]] := by
  have h := (hH.mores 1).addB 0 #[.int .i64 k, .int .i64 p, .int .i64 n, .slice aV m cV, .slice aO op.length cO] 29
  exact h
 have hsz : (w.alloc (.cells #[.int .i64 k, .int .i64 p, .int .i64 n, .slice aV m cV, .slice aO op.length cO] 29)).heap.size = w.heap.size + 1 := by simp
 generalize w.alloc (.cells #[.int .i64 k, .int .i64 p, .int .i64 n, .slice aV m cV, .slice aO op.length cO] 29) = wn1 at hB hsz ⊢
 replace hH := hB; have HSZwn1 := Lib.hid hsz; clear hB hsz
 have hB : Held w (wn1.alloc (.cells #[.slice none 0 0, .slice none 0 0, .slice none 0 0] 32)) [aB (w.heap.size) 29 [.int .i64 k, .int .i64 p, .int .i64 n, .slice aV m cV, .slice aO op.length cO], aB (w.heap.size + 1) 32 [.slice none 0 0, .slice none 0 0, .slice none 0 0]] := by
  have h := (hH.mores 1).addB 1 #[.slice none 0 0, .slice none 0 0, .slice none 0 0] 32
  rw [HSZwn1.out] at h
  exact h
 have hsz : (wn1.alloc (.cells #[.slice none 0 0, .slice none 0 0, .slice none 0 0] 32)).heap.size = w.heap.size + 1 + 1 := by rw [← HSZwn1.out]; simp
 generalize wn1.alloc (.cells #[.slice none 0 0, .slice none 0 0, .slice none 0 0] 32) = wn2 at hB hsz ⊢
 replace hH := hB; have HSZwn2 := Lib.hid hsz; clear hB hsz
 have q0_0 := hH.cl 0 0 rfl rfl; have q0_1 := hH.cl 0 1 rfl rfl; have q0_2 := hH.cl 0 2 rfl rfl; have q0_3 := hH.cl 0 3 rfl rfl; have q0_4 := hH.cl 0 4 rfl rfl; have l0_ := hH.bl 0 rfl; have q1_0 := hH.cl 1 0 rfl rfl; have q1_1 := hH.cl 1 1 rfl rfl; have q1_2 := hH.cl 1 2 rfl rfl; have l1_ := hH.bl 1 rfl
 go_wp2_with fail
 clear q0_0 q0_1 q0_2 q0_3 q0_4 l0_ q1_0 q1_1 q1_2 l1_
 refine (networkValue_spec HR.out HN.out _ _ _ (hT0.ext hH.ext) (hO0.ext hH.ext)).mono ?_; rintro ewn3 wn3 ⟨u, rfl, ou, hwn3⟩
 rw [show flat (netXs HR.out dm ts op) = RX from HRX.out] at ou
 obtain ⟨p1, n1, d1, p2, n2, d2, p3, n3, d3, rfl⟩ := ou.shape
 replace hH : Held w wn3 [aB (w.heap.size) 29 [.int .i64 k, .int .i64 p, .int .i64 n, .slice aV m cV, .slice aO op.length cO], aB (w.heap.size + 1) 32 [.slice none 0 0, .slice none 0 0, .slice none 0 0], aT (.agg #[.slice p1 n1 d1, .slice p2 n2 d2, .slice p3 n3 d3]) op (op.map dm) RX] := (hH.mores 1).addT 2 hwn3 ou (Nat.le_refl _)
 clear hwn3
 have q0_0 := hH.cl 0 0 rfl rfl; have q0_1 := hH.cl 0 1 rfl rfl; have q0_2 := hH.cl 0 2 rfl rfl; have q0_3 := hH.cl 0 3 rfl rfl; have q0_4 := hH.cl 0 4 rfl rfl; have l0_ := hH.bl 0 rfl; have q1_0 := hH.cl 1 0 rfl rfl; have q1_1 := hH.cl 1 1 rfl rfl; have q1_2 := hH.cl 1 2 rfl rfl; have l1_ := hH.bl 1 rfl
 go_upto_region 2 with fail
 clear q0_0 q0_1 q0_2 q0_3 q0_4 l0_ q1_0 q1_1 q1_2 l1_
 have hB : Held w (wn3.alloc (.cells #[.slice p1 n1 d1, .slice p2 n2 d2, .slice p3 n3 d3] 32)) [aB (w.heap.size) 29 [.int .i64 k, .int .i64 p, .int .i64 n, .slice aV m cV, .slice aO op.length cO], aB (w.heap.size + 1) 32 [.slice none 0 0, .slice none 0 0, .slice none 0 0], aT (.agg #[.slice p1 n1 d1, .slice p2 n2 d2, .slice p3 n3 d3]) op (op.map dm) RX, aB (wn3.heap.size) 32 [.slice p1 n1 d1, .slice p2 n2 d2, .slice p3 n3 d3]] := by
  have h := (hH.mores 1).addB 3 #[.slice p1 n1 d1, .slice p2 n2 d2, .slice p3 n3 d3] 32
  exact h
 have hsz : (wn3.alloc (.cells #[.slice p1 n1 d1, .slice p2 n2 d2, .slice p3 n3 d3] 32)).heap.size = wn3.heap.size + 1 := by simp
 generalize wn3.alloc (.cells #[.slice p1 n1 d1, .slice p2 n2 d2, .slice p3 n3 d3] 32) = wn4 at hB hsz ⊢
 replace hH := hB; have HSZwn4 := Lib.hid hsz; clear hB hsz
 have q0_0 := hH.cl 0 0 rfl rfl; have q0_1 := hH.cl 0 1 rfl rfl; have q0_2 := hH.cl 0 2 rfl rfl; have q0_3 := hH.cl 0 3 rfl rfl; have q0_4 := hH.cl 0 4 rfl rfl; have l0_ := hH.bl 0 rfl; have q1_0 := hH.cl 1 0 rfl rfl; have f1_0 := hH.fr 1 0 rfl; have q1_1 := hH.cl 1 1 rfl rfl; have f1_1 := hH.fr 1 1 rfl; have q1_2 := hH.cl 1 2 rfl rfl; have f1_2 := hH.fr 1 2 rfl; have l1_ := hH.bl 1 rfl; have q3_0 := hH.cl 3 0 rfl rfl; have q3_1 := hH.cl 3 1 rfl rfl; have q3_2 := hH.cl 3 2 rfl rfl; have l3_ := hH.bl 3 rfl
 go_wp2_with fail
 refine bodyPost_ret (v := .agg #[.slice p1 n1 d1, .slice p2 n2 d2, .slice p3 n3 d3]) (by simp [results, Try.results37, go_sem, *]) rfl ?_
 have hHR := hH.setB3' (k := 1) rfl (.slice p1 n1 d1) (.slice p2 n2 d2) (.slice p3 n3 d3)
 exact ⟨_, rfl, hHR.ownT (k := 2) rfl, hHR.ext⟩
set_option maxRecDepth 100000 in
set_option maxHeartbeats 4000000 in
theorem gives_any {k p n : Int} (hr : ringOk k p n = true) {dm : Int → Int} {U : List Int} {ts : List (NT k p n)} {op : List Int} (hN : IsN k p n dm U ts op) (tv ov : Value) (w : World) (hT : TensS w tv (ts.map (tenOf dm))) (hO : IntS w ov op) (va : Value) (Y : List Int) (ha : TenS w va op (op.map dm) Y) (hY : Y = flat (netXs hr dm ts op)) :
 Calls Try.prog 49 #[.agg #[.int .i64 k, .int .i64 p, .int .i64 n, tv, ov], va] w fun e w' => e = .returned (.bool true) ∧ Ext w w' := by
 have hT0 := hT
 have hO0 := hO
 obtain ⟨m, hm⟩ : ∃ m, ts.length = m := ⟨_, rfl⟩
 obtain ⟨aV, cV, rfl, hcT1, hcT2⟩ := hT.val
 obtain ⟨aO, cO, rfl, hcO1, hcO2⟩ := hO.val
 rw [List.length_map, hm] at hT hT0 hcT1
 rw [List.length_map, hm]
 have hm12 : m ≤ 12 := by rw [← hm]; exact hN.len
 have hop12 : op.length ≤ 12 := hN.rank
 have HM := Lib.hid hm; have HR := Lib.hid hr; have HN := Lib.hid hN; have HD3 := Lib.hid hN.dims3; clear hm  hN
 have hTl : Hid ((ts.map (tenOf dm)).length = m) := Lib.hid (by rw [List.length_map]; exact HM.out)
 subst hY
 obtain ⟨RX, hRX⟩ : ∃ q, flat (netXs hr dm ts op) = q := ⟨_, rfl⟩
 rw [hRX] at ha
 have HRX := Lib.hid hRX; clear hRX
 have ha0 := ha
 obtain ⟨ap1, an1, ac1, ap2, an2, ac2, ap3, an3, ac3, rfl⟩ := ha.shape
 go_enter Try.func49, Try.ntmps49
 go_upto_region 1 with fail
 have hH : Held w w [] := Held.new (Ext.refl w) 0
 have hB : Held w (w.alloc (.cells #[.int .i64 k, .int .i64 p, .int .i64 n, .slice aV m cV, .slice aO op.length cO] 29)) [aB (w.heap.size) 29 [.int .i64 k, .int .i64 p, .int .i64 n, .slice aV m cV, .slice aO op.length cO]] := by
  have h := (hH.mores 1).addB 0 #[.int .i64 k, .int .i64 p, .int .i64 n, .slice aV m cV, .slice aO op.length cO] 29
  exact h
 have hsz : (w.alloc (.cells #[.int .i64 k, .int .i64 p, .int .i64 n, .slice aV m cV, .slice aO op.length cO] 29)).heap.size = w.heap.size + 1 := by simp
 generalize w.alloc (.cells #[.int .i64 k, .int .i64 p, .int .i64 n, .slice aV m cV, .slice aO op.length cO] 29) = wn1 at hB hsz ⊢
 replace hH := hB; have HSZwn1 := Lib.hid hsz; clear hB hsz
 have hB : Held w (wn1.alloc (.cells #[.slice ap1 an1 ac1, .slice ap2 an2 ac2, .slice ap3 an3 ac3] 32)) [aB (w.heap.size) 29 [.int .i64 k, .int .i64 p, .int .i64 n, .slice aV m cV, .slice aO op.length cO], aB (w.heap.size + 1) 32 [.slice ap1 an1 ac1, .slice ap2 an2 ac2, .slice ap3 an3 ac3]] := by
  have h := (hH.mores 1).addB 1 #[.slice ap1 an1 ac1, .slice ap2 an2 ac2, .slice ap3 an3 ac3] 32
  rw [HSZwn1.out] at h
  exact h
 have hsz : (wn1.alloc (.cells #[.slice ap1 an1 ac1, .slice ap2 an2 ac2, .slice ap3 an3 ac3] 32)).heap.size = w.heap.size + 1 + 1 := by rw [← HSZwn1.out]; simp
 generalize wn1.alloc (.cells #[.slice ap1 an1 ac1, .slice ap2 an2 ac2, .slice ap3 an3 ac3] 32) = wn2 at hB hsz ⊢
 replace hH := hB; have HSZwn2 := Lib.hid hsz; clear hB hsz
 have q0_0 := hH.cl 0 0 rfl rfl; have q0_1 := hH.cl 0 1 rfl rfl; have q0_2 := hH.cl 0 2 rfl rfl; have q0_3 := hH.cl 0 3 rfl rfl; have q0_4 := hH.cl 0 4 rfl rfl; have l0_ := hH.bl 0 rfl; have q1_0 := hH.cl 1 0 rfl rfl; have q1_1 := hH.cl 1 1 rfl rfl; have q1_2 := hH.cl 1 2 rfl rfl; have l1_ := hH.bl 1 rfl
 go_wp2_with fail
 clear q0_0 q0_1 q0_2 q0_3 q0_4 l0_ q1_0 q1_1 q1_2 l1_
 refine (networkValue_spec HR.out HN.out _ _ _ (hT0.ext hH.ext) (hO0.ext hH.ext)).mono ?_; rintro ewn3 wn3 ⟨u, rfl, ou, hwn3⟩
 rw [show flat (netXs HR.out dm ts op) = RX from HRX.out] at ou
 obtain ⟨p1, n1, d1, p2, n2, d2, p3, n3, d3, rfl⟩ := ou.shape
 replace hH : Held w wn3 [aB (w.heap.size) 29 [.int .i64 k, .int .i64 p, .int .i64 n, .slice aV m cV, .slice aO op.length cO], aB (w.heap.size + 1) 32 [.slice ap1 an1 ac1, .slice ap2 an2 ac2, .slice ap3 an3 ac3], aT (.agg #[.slice p1 n1 d1, .slice p2 n2 d2, .slice p3 n3 d3]) op (op.map dm) RX] := (hH.mores 1).addT 2 hwn3 ou (Nat.le_refl _)
 clear hwn3
 have q0_0 := hH.cl 0 0 rfl rfl; have q0_1 := hH.cl 0 1 rfl rfl; have q0_2 := hH.cl 0 2 rfl rfl; have q0_3 := hH.cl 0 3 rfl rfl; have q0_4 := hH.cl 0 4 rfl rfl; have l0_ := hH.bl 0 rfl; have q1_0 := hH.cl 1 0 rfl rfl; have q1_1 := hH.cl 1 1 rfl rfl; have q1_2 := hH.cl 1 2 rfl rfl; have l1_ := hH.bl 1 rfl
 go_upto_region 2 with fail
 clear q0_0 q0_1 q0_2 q0_3 q0_4 l0_ q1_0 q1_1 q1_2 l1_
 have hB : Held w (wn3.alloc (.cells #[.slice p1 n1 d1, .slice p2 n2 d2, .slice p3 n3 d3] 32)) [aB (w.heap.size) 29 [.int .i64 k, .int .i64 p, .int .i64 n, .slice aV m cV, .slice aO op.length cO], aB (w.heap.size + 1) 32 [.slice ap1 an1 ac1, .slice ap2 an2 ac2, .slice ap3 an3 ac3], aT (.agg #[.slice p1 n1 d1, .slice p2 n2 d2, .slice p3 n3 d3]) op (op.map dm) RX, aB (wn3.heap.size) 32 [.slice p1 n1 d1, .slice p2 n2 d2, .slice p3 n3 d3]] := by
  have h := (hH.mores 1).addB 3 #[.slice p1 n1 d1, .slice p2 n2 d2, .slice p3 n3 d3] 32
  exact h
 have hsz : (wn3.alloc (.cells #[.slice p1 n1 d1, .slice p2 n2 d2, .slice p3 n3 d3] 32)).heap.size = wn3.heap.size + 1 := by simp
 generalize wn3.alloc (.cells #[.slice p1 n1 d1, .slice p2 n2 d2, .slice p3 n3 d3] 32) = wn4 at hB hsz ⊢
 replace hH := hB; have HSZwn4 := Lib.hid hsz; clear hB hsz
 have q0_0 := hH.cl 0 0 rfl rfl; have q0_1 := hH.cl 0 1 rfl rfl; have q0_2 := hH.cl 0 2 rfl rfl; have q0_3 := hH.cl 0 3 rfl rfl; have q0_4 := hH.cl 0 4 rfl rfl; have l0_ := hH.bl 0 rfl; have q1_0 := hH.cl 1 0 rfl rfl; have q1_1 := hH.cl 1 1 rfl rfl; have q1_2 := hH.cl 1 2 rfl rfl; have l1_ := hH.bl 1 rfl; have q3_0 := hH.cl 3 0 rfl rfl; have q3_1 := hH.cl 3 1 rfl rfl; have q3_2 := hH.cl 3 2 rfl rfl; have l3_ := hH.bl 3 rfl
 go_wp2_with fail
 clear q0_0 q0_1 q0_2 q0_3 q0_4 l0_ q1_0 q1_1 q1_2 l1_ q3_0 q3_1 q3_2 l3_
 refine (same_same _ _ _ _ _ _ _ _ _ (hH.tens (k := 2) rfl) (ha0.ext hH.ext) rfl rfl rfl).mono ?_; rintro ewn5 wn5 ⟨rfl, hwn5⟩
 replace hH : Held w wn5 [aB (w.heap.size) 29 [.int .i64 k, .int .i64 p, .int .i64 n, .slice aV m cV, .slice aO op.length cO], aB (w.heap.size + 1) 32 [.slice ap1 an1 ac1, .slice ap2 an2 ac2, .slice ap3 an3 ac3], aT (.agg #[.slice p1 n1 d1, .slice p2 n2 d2, .slice p3 n3 d3]) op (op.map dm) RX, aB (wn3.heap.size) 32 [.slice p1 n1 d1, .slice p2 n2 d2, .slice p3 n3 d3]] := hH.grow hwn5
 clear hwn5
 have HE := Lib.hid hH.ext; clear hH
 go_wp2
 go_ret
 exact ⟨rfl, HE.out⟩
end Go.Proofs.Ytpegckmagiaggaa
