/- Networks: compared, marked and looked at (eqTensorS, markTensorS, heldTensorS, eqNetwork, markNetwork, heldNetwork of the laws). -/
import Derived.Test.YtlgjddgajdjllaaGreatDoorQPRingS
set_option linter.unusedSimpArgs false
set_option linter.unusedVariables false
namespace Go.Proofs.YtlgjddgajdjllaaGreatDoor
open Go.RowKit
structure ApartD (cs : List (Value × Value × Value)) : Prop where
  pair : cs.Pairwise fun c d => ∀ b ∈ fpC c, b ∉ fpC d
  self : ∀ c ∈ cs, (∀ b, c.1.ownBlock = some b → c.2.1.ownBlock ≠ some b ∧ c.2.2.ownBlock ≠ some b) ∧ ∀ b, c.2.1.ownBlock = some b → c.2.2.ownBlock ≠ some b
theorem ApartD.nil : ApartD [] := ⟨List.Pairwise.nil, fun c hc => by cases hc⟩
theorem ApartD.push {ex : Option Nat} {a w : World} {L : List Asn} {k1 k2 : Nat} {v x y z : Value} {cs : List (Value × Value × Value)} {ts : List Ten3} {Lx Dx Xx : List Int} (hap : ApartD cs) (h : HeldX ex a w L) (h1 : L[k1]? = some (aTs v cs ts)) (h2 : L[k2]? = some (aT (.agg #[x, y, z]) Lx Dx Xx)) (hne : k1 ≠ k2) : ApartD (cs ++ [(x, y, z)]) := by
  have ho := h.others h1 k2 _ (Ne.symm hne) h2
  refine ⟨List.pairwise_append.2 ⟨hap.pair, by simp, fun d hd e he b hb hb2 => ?_⟩, fun d hd => ?_⟩
  · simp at he; subst he
    refine ho b (List.mem_append_right _ (List.mem_flatMap.2 ⟨d, hd, hb⟩)) ?_
    show b ∈ fpV (.agg #[x, y, z])
    rw [fpV_agg]
    have := mem_fpC.1 hb2
    simpa using this
  · rcases List.mem_append.1 hd with hd | hd
    · exact hap.self d hd
    · simp at hd; subst hd
      have hx : OwnT w 0 (.agg #[x, y, z]) Lx Dx Xx := h.get h2
      obtain ⟨a, b, c, e, _, _, _, h4, h5⟩ := hx.val
      simp at e
      obtain ⟨rfl, rfl, rfl⟩ := e
      exact ⟨h4, h5⟩
def sizeT : List Ten3 → Nat
  | [] => 0
  | t :: ts => t.1.length + t.2.1.length + t.2.2.length + sizeT ts
def mksT : Int → List Ten3 → List Ten3
  | _, [] => []
  | q, t :: ts => (marks q t.1.length, marks (q + t.1.length) t.2.1.length, marks (q + t.1.length + t.2.1.length) t.2.2.length) :: mksT (q + t.1.length + t.2.1.length + t.2.2.length) ts
theorem mksT_length : ∀ (q : Int) (ts : List Ten3), (mksT q ts).length = ts.length
  | _, [] => rfl
  | q, t :: ts => by rw [mksT, List.length_cons, mksT_length, List.length_cons]
theorem sizeT_snoc : ∀ {ts : List Ten3} {j : Nat} {t : Ten3}, ts[j]? = some t → sizeT (ts.take (j + 1)) = sizeT (ts.take j) + t.1.length + t.2.1.length + t.2.2.length
  | [], j, t, h => by simp at h
  | a :: ts, 0, t, h => by simp at h; subst h; simp [sizeT]
  | a :: ts, j + 1, t, h => by
    have ih := sizeT_snoc (ts := ts) (j := j) (t := t) (by simpa using h)
    rw [List.take_succ_cons, List.take_succ_cons, sizeT, sizeT, ih]; omega
theorem sizeT_le : ∀ (ts : List Ten3) (j : Nat), sizeT (ts.take j) ≤ sizeT ts
  | [], j => by simp
  | a :: ts, 0 => by simp [sizeT]
  | a :: ts, j + 1 => by
    have := sizeT_le ts j
    rw [List.take_succ_cons, sizeT, sizeT]; omega
def markG (q : Int) (ts : List Ten3) (j : Nat) : List Ten3 := mksT q (ts.take j) ++ ts.drop j
theorem markG_zero (q : Int) (ts : List Ten3) : markG q ts 0 = ts := by simp [markG, mksT]
theorem markG_all (q : Int) (ts : List Ten3) : markG q ts ts.length = mksT q ts := by simp [markG]
theorem mksT_snoc : ∀ {q : Int} {ts : List Ten3} {j : Nat} {t : Ten3}, ts[j]? = some t → mksT q (ts.take (j + 1)) = mksT q (ts.take j) ++ [(marks (q + sizeT (ts.take j)) t.1.length, marks (q + sizeT (ts.take j) + t.1.length) t.2.1.length, marks (q + sizeT (ts.take j) + t.1.length + t.2.1.length) t.2.2.length)]
  | _, [], j, t, h => by simp at h
  | q, a :: ts, 0, t, h => by simp at h; subst h; simp [sizeT, mksT]
  | q, a :: ts, j + 1, t, h => by
    have ih := mksT_snoc (q := q + a.1.length + a.2.1.length + a.2.2.length) (ts := ts) (j := j) (t := t) (by simpa using h)
    rw [List.take_succ_cons, List.take_succ_cons, mksT, mksT, ih, sizeT]
    have e : q + (((a.1.length + a.2.1.length + a.2.2.length + sizeT (ts.take j) : Nat)) : Int) = q + a.1.length + a.2.1.length + a.2.2.length + (sizeT (ts.take j) : Int) := by omega
    rw [e]; rfl
theorem markG_get {q : Int} {ts : List Ten3} {j : Nat} {t : Ten3} (h : ts[j]? = some t) : (markG q ts j)[j]? = some t := by
  have hi := (List.getElem?_eq_some_iff.1 h).1
  have hl : (mksT q (ts.take j)).length = j := by rw [mksT_length, List.length_take]; omega
  unfold markG
  rw [List.getElem?_append_right (by omega), hl, List.getElem?_drop, Nat.sub_self, Nat.add_zero]
  exact h
theorem markG_set {q : Int} {ts : List Ten3} {j : Nat} {t : Ten3} (h : ts[j]? = some t) : (markG q ts j).set j (marks (q + sizeT (ts.take j)) t.1.length, marks (q + sizeT (ts.take j) + t.1.length) t.2.1.length, marks (q + sizeT (ts.take j) + t.1.length + t.2.1.length) t.2.2.length) = markG q ts (j + 1) := by
  obtain ⟨hi, hx⟩ := List.getElem?_eq_some_iff.1 h
  have hl : (mksT q (ts.take j)).length = j := by rw [mksT_length, List.length_take]; omega
  unfold markG
  rw [List.set_append_right _ _ (by omega), hl, Nat.sub_self, List.drop_eq_getElem_cons hi, List.set_cons_zero, mksT_snoc h, List.append_assoc]; rfl
section
variable {ex : Option Nat} {a w w' : World} {L : List Asn} {k : Nat}
theorem HeldX.markTs {v : Value} {cs : List (Value × Value × Value)} {ts : List Ten3} {c : Value × Value × Value} {t' : Ten3} (h : HeldX ex a w L) (h1 : L[k]? = some (aTs v cs ts)) (hap : ApartD cs) {j : Nat} (hc : cs[j]? = some c) {ob : Option Nat} (hob : ∀ b, ob = some b → b ∈ fpC c) (g : w.grownBy w' ob)
    (hn : OwnI w' 0 c.1 t'.1 ∧ OwnI w' 0 c.2.1 t'.2.1 ∧ OwnI w' 0 c.2.2 t'.2.2) : HeldX ex a w' (L.set k (aTs v cs (ts.set j t'))) := by
  have ho : OwnTs w v cs ts := h.get h1
  have hcm : c ∈ cs := List.mem_of_getElem? hc
  have hjl : j < ts.length := by rw [← ho.len]; exact (List.getElem?_eq_some_iff.1 hc).1
  obtain ⟨g1, g2, g3⟩ := ho.elem j _ _ hc (List.getElem?_eq_getElem hjl)
  have near : ∀ {u : Value} {l : List Int}, OwnI w 0 u l → (∀ q, u.ownBlock = some q → ob ≠ some q) → OwnI w' 0 u l := fun o hne => o.near fun q hq => g.block q (o.block_lt hq).2 fun e => hne q hq e.symm
  refine h.turn h1 g (fun q hq => List.mem_append_right _ (List.mem_flatMap.2 ⟨_, hcm, hob q hq⟩)) ⟨by rw [List.length_set]; exact ho.len, ?_, fun q d t hqc hqt => ?_⟩ fun q hq => .inl hq
  · rw [List.length_set]
    refine ownsRow_near ho.row fun q hq => g.block q (ownsRow_lt ho.row hq).2 fun e => ?_
    rcases mem_fpC.1 (hob q e.symm) with e2 | e2 | e2
    · exact ints_not_tens ho.row hq g1 e2 rfl
    · exact ints_not_tens ho.row hq g2 e2 rfl
    · exact ints_not_tens ho.row hq g3 e2 rfl
  · by_cases e : q = j
    · subst e
      rw [hc] at hqc
      rw [List.getElem?_set_self hjl] at hqt
      obtain rfl := Option.some.inj hqc
      obtain rfl := Option.some.inj hqt
      exact hn
    · rw [List.getElem?_set_ne (Ne.symm e)] at hqt
      obtain ⟨f1, f2, f3⟩ := ho.elem q d t hqc hqt
      have hno : ∀ r, r ∈ fpC d → ob ≠ some r := fun r hr er => by
        have hr2 := hob r er
        rcases Nat.lt_or_gt_of_ne e with hlt | hlt
        · exact (List.pairwise_iff_getElem.1 hap.pair q j (List.getElem?_eq_some_iff.1 hqc).1 (List.getElem?_eq_some_iff.1 hc).1 hlt) r (by rw [(List.getElem?_eq_some_iff.1 hqc).2]; exact hr) (by rw [(List.getElem?_eq_some_iff.1 hc).2]; exact hr2)
        · exact (List.pairwise_iff_getElem.1 hap.pair j q (List.getElem?_eq_some_iff.1 hc).1 (List.getElem?_eq_some_iff.1 hqc).1 hlt) r (by rw [(List.getElem?_eq_some_iff.1 hc).2]; exact hr2) (by rw [(List.getElem?_eq_some_iff.1 hqc).2]; exact hr)
      exact ⟨near f1 fun r hr => hno r (mem_fpC.2 (.inl hr)), near f2 fun r hr => hno r (mem_fpC.2 (.inr (.inl hr))), near f3 fun r hr => hno r (mem_fpC.2 (.inr (.inr hr)))⟩
end
theorem set_id {α : Type} {l : List α} {k : Nat} {x : α} (h : l[k]? = some x) : l.set k x = l := by
  obtain ⟨hj, rfl⟩ := List.getElem?_eq_some_iff.1 h
  exact List.set_getElem_self hj
theorem set_get_self {α : Type} {l : List α} {k : Nat} {x y : α} (h : l[k]? = some x) : (l.set k y)[k]? = some y := by
  obtain ⟨hj, _⟩ := List.getElem?_eq_some_iff.1 h
  exact List.getElem?_set_self hj
theorem OwnTs.atM {w : World} {a : Option Addr} {n cap : Nat} {cs : List (Value × Value × Value)} {ts : List Ten3} (h : OwnTs w (.slice a n cap) cs ts) {i : Nat} {t : Ten3} (ht : ts[i]? = some t) :
    ∃ b x y z, a = some ⟨b, 0, none⟩ ∧ cs[i]? = some (x, y, z) ∧ w.cell? ⟨b, i * 3, none⟩ = some x ∧ w.cell? ⟨b, i * 3 + 1, none⟩ = some y ∧ w.cell? ⟨b, i * 3 + 2, none⟩ = some z ∧ OwnI w 0 x t.1 ∧ OwnI w 0 y t.2.1 ∧ OwnI w 0 z t.2.2 := by
  have hi : i < ts.length := (List.getElem?_eq_some_iff.1 ht).1
  rcases h.row.2 with ⟨h0, h1⟩ | ⟨g, cap', cur, hv, _⟩
  · omega
  · cases hv
    obtain ⟨x, y, z, h1, h2, h3, h4, h5, h6, h7, _⟩ := h.get ht
    exact ⟨g, x, y, z, rfl, h1, h2, h3, h4, h5, h6, h7⟩
set_option maxRecDepth 100000 in
set_option maxHeartbeats 4000000 in
theorem markTensorS_any {a w : World} {L : List Asn} {k : Nat} {v : Value} {cs : List (Value × Value × Value)} {ts : List Ten3} (h : HeldX none a w L) (hk : L[k]? = some (aTs v cs ts)) (hap : ApartD cs) (q : Int) (h0 : 0 ≤ q) (hb : q + sizeT ts ≤ 4611686018427387904) :
 Calls Tryz.prog 42 #[v, .int .i64 q] w fun e w' => e = .returned (.int .i64 (q + sizeT ts)) ∧ HeldX none a w' (L.set k (aTs v cs (mksT q ts))) := by
 obtain ⟨aV, cV, hv, hc1, hc2⟩ := (h.tensS hk).val
 obtain ⟨m, hm⟩ : ∃ m, ts.length = m := ⟨_, rfl⟩
 rw [hm] at hv hc1
 subst hv
 have HM := Lib.hid hm; have HK := Lib.hid hk; have HAP := Lib.hid hap
 have HSL : Hid (∀ j, sizeT (ts.take j) ≤ sizeT ts) := Lib.hid (sizeT_le ts)
 have hH : HeldX none a w (L.set k (aTs (.slice aV m cV) cs (markG q ts 0))) := by rw [markG_zero, set_id hk]; exact h
 clear hm hk hap h
 go_enter Tryz.func42, Tryz.ntmps42
 go_wp2_with fail
 go_loopw [1, 5] (fun z i wr => ∃ j : Nat, j ≤ m ∧ z = .int .i64 (q + sizeT (ts.take j)) ∧ i = .int .i64 (j : Int) ∧ HeldX none a wr (L.set k (aTs (.slice aV m cV) cs (markG q ts j)))) (fun _ i _ => m - (RowKit.intOf i).toNat)
 case atStart => exact ⟨0, Nat.zero_le _, by simp [sizeT], rfl, hH⟩
 case round =>
  clear hH
  obtain ⟨j, hj, rfl, rfl, hH⟩ := hrel
  obtain ⟨wq, rfl⟩ : ∃ z, z = wr := ⟨wr, rfl⟩
  have HKj := Lib.hid (set_get_self HK.out (y := aTs (.slice aV m cV) cs (markG q ts j)))
  by_cases hlt : j < m
  · obtain ⟨t, ht⟩ : ∃ t, ts[j]? = some t := ⟨_, List.getElem?_eq_getElem (by rw [HM.out]; exact hlt)⟩
    have hS := HSL.out (j + 1)
    rw [sizeT_snoc ht] at hS
    obtain ⟨sj, hsj⟩ : ∃ sj, sizeT (ts.take j) = sj := ⟨_, rfl⟩
    rw [hsj] at hS ⊢
    have HS2 : Hid (sizeT (ts.take (j + 1)) = sj + t.1.length + t.2.1.length + t.2.2.length) := Lib.hid (by rw [sizeT_snoc ht, hsj])
    have HSET : Hid ((markG q ts j).set j (marks (q + sj) t.1.length, marks (q + sj + t.1.length) t.2.1.length, marks (q + sj + t.1.length + t.2.1.length) t.2.2.length) = markG q ts (j + 1)) := Lib.hid (by rw [← markG_set ht, hsj])
    have HGET : Hid ((markG q ts j)[j]? = some t) := Lib.hid (markG_get ht)
    have HSJ := Lib.hid hsj; have HT := Lib.hid ht
    clear hsj ht
    obtain ⟨TJ, hTJ⟩ : ∃ TJ, markG q ts j = TJ := ⟨_, rfl⟩
    rw [hTJ] at hH HKj HSET HGET
    have HTJ := Lib.hid hTJ; clear hTJ
    have ho : OwnTs wq (.slice aV m cV) cs TJ := hH.get HKj.out
    obtain ⟨bV, x, y, z, rfl, hc, q0, q1, q2, o1, o2, o3⟩ := ho.atM HGET.out
    have hsf := HAP.out.self _ (List.mem_of_getElem? hc)
    have HC := Lib.hid hc; have HSF := Lib.hid hsf
    obtain ⟨Lt, Dt, Xt⟩ := t
    simp only at hS o1 o2 o3
    obtain ⟨e1, f1, rfl, _, _⟩ := o1.ints.val
    obtain ⟨e2, f2, rfl, _, _⟩ := o2.ints.val
    obtain ⟨e3, f3, rfl, _, _⟩ := o3.ints.val
    have bl : bV < wq.heap.size := (ownsRow_lt ho.row rfl).2
    have bn : ∀ {u : Value} {l : List Int}, OwnI wq 0 u l → u.ownBlock ≠ some bV := fun o e => ints_not_tens ho.row rfl o e rfl
    have N1 := Lib.hid (bn o1); have N2 := Lib.hid (bn o2); have N3 := Lib.hid (bn o3)
    clear ho hc hsf bn
    go_wp2_with fail
    refine (markIntS_any 0 _ Lt (q + sj) _ o1 (by omega) (by omega)).mono ?_; rintro w1e w1 ⟨rfl, p1, g1⟩
    have p2 := o2.only g1 (fun r hr e => (HSF.out.1 r e).1 hr)
    have p3 := o3.only g1 (fun r hr e => (HSF.out.1 r e).2 hr)
    have s1 := hH.markTs HKj.out HAP.out HC.out (ob := _) (fun r hr => mem_fpC.2 (.inl hr)) g1 (t' := (marks (q + sj) Lt.length, Dt, Xt)) ⟨p1, p2, p3⟩
    have k0 : w1.cell? ⟨bV, j * 3, none⟩ = wq.cell? ⟨bV, j * 3, none⟩ := by unfold World.cell?; rw [g1.block bV bl (fun e => N1.out e.symm)]
    have k1 : w1.cell? ⟨bV, j * 3 + 1, none⟩ = wq.cell? ⟨bV, j * 3 + 1, none⟩ := by unfold World.cell?; rw [g1.block bV bl (fun e => N1.out e.symm)]
    have k2 : w1.cell? ⟨bV, j * 3 + 2, none⟩ = wq.cell? ⟨bV, j * 3 + 2, none⟩ := by unfold World.cell?; rw [g1.block bV bl (fun e => N1.out e.symm)]
    rw [q1] at k1
    rw [q2] at k2
    have bl1 : bV < w1.heap.size := Nat.lt_of_lt_of_le bl g1.size
    rw [set_set_same] at s1
    clear k0 q0 q1 q2 hH o1 o2 o3
    have K1 := Lib.hid (set_get_self HK.out (y := aTs (.slice (some ⟨bV, 0, none⟩) m cV) cs (TJ.set j (marks (q + sj) Lt.length, Dt, Xt))))
    go_wp2_with fail
    refine (markIntS_any 0 _ Dt (q + sj + Lt.length) _ p2 (by omega) (by omega)).mono ?_; rintro w2e w2 ⟨rfl, r2, g2⟩
    have r1 := p1.only g2 (fun r hr e => (HSF.out.1 r hr).1 e)
    have r3 := p3.only g2 (fun r hr e => HSF.out.2 r e hr)
    have s2 := s1.markTs K1.out HAP.out HC.out (ob := _) (fun r hr => mem_fpC.2 (.inr (.inl hr))) g2 (t' := (marks (q + sj) Lt.length, marks (q + sj + Lt.length) Dt.length, Xt)) ⟨r1, r2, r3⟩
    have k3 : w2.cell? ⟨bV, j * 3 + 2, none⟩ = w1.cell? ⟨bV, j * 3 + 2, none⟩ := by unfold World.cell?; rw [g2.block bV bl1 (fun e => N2.out e.symm)]
    rw [k2] at k3
    have bl2 : bV < w2.heap.size := Nat.lt_of_lt_of_le bl1 g2.size
    rw [set_set_same, List.set_set] at s2
    clear k1 k2 s1 p1 p2 p3 K1
    have K2 := Lib.hid (set_get_self HK.out (y := aTs (.slice (some ⟨bV, 0, none⟩) m cV) cs (TJ.set j (marks (q + sj) Lt.length, marks (q + sj + Lt.length) Dt.length, Xt))))
    go_wp2_with fail
    refine (markIntS_any 0 _ Xt (q + sj + Lt.length + Dt.length) _ r3 (by omega) (by omega)).mono ?_; rintro w3e w3 ⟨rfl, u3, g3⟩
    have u1 := r1.only g3 (fun r hr e => (HSF.out.1 r hr).2 e)
    have u2 := r2.only g3 (fun r hr e => HSF.out.2 r hr e)
    have s3 := s2.markTs K2.out HAP.out HC.out (ob := _) (fun r hr => mem_fpC.2 (.inr (.inr hr))) g3 (t' := (marks (q + sj) Lt.length, marks (q + sj + Lt.length) Dt.length, marks (q + sj + Lt.length + Dt.length) Xt.length)) ⟨u1, u2, u3⟩
    rw [set_set_same, List.set_set] at s3
    clear k3 s2 r1 r2 r3 K2
    go_wp2_with fail
    go_roundw
    case rel => exact ⟨j + 1, by omega, by rw [HS2.out]; go_num, by go_num, by rw [← HSET.out]; exact s3⟩
    case measure => simp [RowKit.intOf]; omega
  · have hje : j = m := by omega
    subst hje
    have HE : Hid (sizeT (ts.take j) = sizeT ts ∧ markG q ts j = mksT q ts) := Lib.hid ⟨by rw [List.take_of_length_le (by rw [HM.out]; exact Nat.le_refl _)], by rw [← HM.out]; exact markG_all q ts⟩
    rw [HE.out.1]
    rw [HE.out.2] at hH
    have HH := Lib.hid hH; clear hH
    go_wp2
    go_ret
    exact ⟨rfl, HH.out⟩
set_option maxRecDepth 100000 in
set_option maxHeartbeats 2000000 in
theorem heldTensorS_any (v : Value) (ts : List Ten3) (q : Int) (w : World) (hT : TensS w v (mksT q ts)) (h0 : 0 ≤ q) (hb : q + sizeT ts ≤ 4611686018427387904) :
 Calls Tryz.prog 44 #[v, .int .i64 q] w fun e w' => e = .returned (.int .i64 (q + sizeT ts)) ∧ Ext w w' := by
 obtain ⟨aV, cV, hv, hc1, hc2⟩ := hT.val
 obtain ⟨m, hm⟩ : ∃ m, ts.length = m := ⟨_, rfl⟩
 rw [mksT_length, hm] at hv hc1
 subst hv
 have HM := Lib.hid hm
 have HML : Hid ((mksT q ts).length = m) := Lib.hid (by rw [mksT_length]; exact hm)
 have HSL : Hid (∀ j, sizeT (ts.take j) ≤ sizeT ts) := Lib.hid (sizeT_le ts)
 clear hm
 go_enter Tryz.func44, Tryz.ntmps44
 go_wp2_with fail
 go_loopw [1, 5] (fun z i wr => ∃ j : Nat, j ≤ m ∧ z = .int .i64 (q + sizeT (ts.take j)) ∧ i = .int .i64 (j : Int) ∧ Ext w wr) (fun _ i _ => m - (RowKit.intOf i).toNat)
 case atStart => exact ⟨0, Nat.zero_le _, by simp [sizeT], rfl, Ext.refl _⟩
 case round =>
  obtain ⟨j, hj, rfl, rfl, hE⟩ := hrel
  obtain ⟨wq, rfl⟩ : ∃ z, z = wr := ⟨wr, rfl⟩
  by_cases hlt : j < m
  · obtain ⟨t, ht⟩ : ∃ t, ts[j]? = some t := ⟨_, List.getElem?_eq_getElem (by rw [HM.out]; exact hlt)⟩
    have hS := HSL.out (j + 1)
    rw [sizeT_snoc ht] at hS
    obtain ⟨bV, oV, x, y, z, t3, rfl, q0, q1, q2, ht3, hTT⟩ := (hT.ext hE).get (i := j) (by rw [HML.out]; exact hlt)
    have e3 : t3 = (marks (q + sizeT (ts.take j)) t.1.length, marks (q + sizeT (ts.take j) + t.1.length) t.2.1.length, marks (q + sizeT (ts.take j) + t.1.length + t.2.1.length) t.2.2.length) := by
     have h1 := congrArg (fun l : List Ten3 => l[j]?) (mksT_snoc (q := q) ht)
     have h2 : mksT q ts = markG q ts ts.length := (markG_all q ts).symm
     have hl : (mksT q (ts.take j)).length = j := by rw [mksT_length, List.length_take, HM.out]; omega
     simp only [List.getElem?_append_right (Nat.le_of_eq hl), hl, Nat.sub_self, List.getElem?_cons_zero] at h1
     have h3 : (mksT q ts)[j]? = (mksT q (ts.take (j + 1)))[j]? := by
      have gen : ∀ (q : Int) (ts : List Ten3) (n j : Nat), j < n → (mksT q ts)[j]? = (mksT q (ts.take n))[j]? := by
       intro q ts
       induction ts generalizing q with
       | nil => intro n j _; simp [mksT]
       | cons a ts ih =>
        intro n j hjn
        rcases n with _ | n
        · omega
        · rw [List.take_succ_cons, mksT, mksT]
          rcases j with _ | j
          · rfl
          · rw [List.getElem?_cons_succ, List.getElem?_cons_succ]
            exact ih _ n j (by omega)
      exact gen q ts (j + 1) j (by omega)
     rw [h3, h1] at ht3
     exact (Option.some.inj ht3).symm
    subst e3
    obtain ⟨sj, hsj⟩ : ∃ sj, sizeT (ts.take j) = sj := ⟨_, rfl⟩
    rw [hsj] at hS hTT ⊢
    have HS2 : Hid (sizeT (ts.take (j + 1)) = sj + t.1.length + t.2.1.length + t.2.2.length) := Lib.hid (by rw [sizeT_snoc ht, hsj])
    clear hsj ht ht3
    obtain ⟨Lt, Dt, Xt⟩ := t
    obtain ⟨_, _, _, hvv, o1, o2, o3⟩ := hTT.val
    simp at hvv
    obtain ⟨rfl, rfl, rfl⟩ := hvv
    simp only at hS o1 o2 o3
    obtain ⟨e1, f1, hv1, _, _⟩ := o1.val
    obtain ⟨e2, f2, hv2, _, _⟩ := o2.val
    obtain ⟨e3, f3, hv3, _, _⟩ := o3.val
    rw [marks_length] at hv1 hv2 hv3
    subst hv1 hv2 hv3
    rw [Nat.mul_comm 3 j] at q0 q1 q2
    clear hTT
    go_wp2_with fail
    refine (heldIntS_any _ Lt.length (q + sj) _ o1 (by omega) (by omega)).mono ?_; rintro w1e w1 ⟨rfl, g1⟩
    have k1 := g1.cell q1
    have k2 := g1.cell q2
    clear q0 q1 q2
    go_wp2_with fail
    refine (heldIntS_any _ Dt.length (q + sj + Lt.length) _ (o2.ext g1) (by omega) (by omega)).mono ?_; rintro w2e w2 ⟨rfl, g2⟩
    have k3 := g2.cell k2
    clear k1 k2
    go_wp2_with fail
    refine (heldIntS_any _ Xt.length (q + sj + Lt.length + Dt.length) _ (o3.ext (g1.trans g2)) (by omega) (by omega)).mono ?_; rintro w3e w3 ⟨rfl, g3⟩
    clear k3
    go_wp2_with fail
    go_roundw
    case rel => exact ⟨j + 1, by omega, by rw [HS2.out]; go_num, by go_num, hE.trans (g1.trans (g2.trans g3))⟩
    case measure => simp [RowKit.intOf]; omega
  · have hje : j = m := by omega
    subst hje
    have HE : Hid (sizeT (ts.take j) = sizeT ts) := Lib.hid (by rw [List.take_of_length_le (by rw [HM.out]; exact Nat.le_refl _)])
    rw [HE.out]
    go_wp2
    go_ret
    exact ⟨rfl, hE⟩
set_option maxRecDepth 100000 in
set_option maxHeartbeats 2000000 in
theorem eqTensorS_any (v u : Value) (ts : List Ten3) (w : World) (hT : TensS w v ts) (hU : TensS w u ts) :
 Calls Tryz.prog 40 #[v, u] w fun e w' => e = .returned (.bool true) ∧ Ext w w' := by
 obtain ⟨aV, cV, rfl, hc1, hc2⟩ := hT.val
 obtain ⟨aU, cU, rfl, _, _⟩ := hU.val
 obtain ⟨m, hm⟩ : ∃ m, ts.length = m := ⟨_, rfl⟩
 rw [hm] at hT hU hc1 ⊢
 have HM := Lib.hid hm; clear hm
 go_enter Tryz.func40, Tryz.ntmps40
 go_wp2_with fail
 go_loopw [5] (fun i wr => ∃ j : Nat, j ≤ m ∧ i = .int .i64 (j : Int) ∧ Ext w wr) (fun i _ => m - (RowKit.intOf i).toNat)
 case atStart => exact ⟨0, Nat.zero_le _, rfl, Ext.refl _⟩
 case round =>
  obtain ⟨j, hj, rfl, hE⟩ := hrel
  obtain ⟨wq, rfl⟩ : ∃ z, z = wr := ⟨wr, rfl⟩
  by_cases hlt : j < m
  · obtain ⟨bV, oV, x1, x2, x3, t, rfl, q0, q1, q2, ht, hTT⟩ := (hT.ext hE).get (i := j) (by rw [HM.out]; exact hlt)
    obtain ⟨bU, oU, y1, y2, y3, t', rfl, r0, r1, r2, ht', hUU⟩ := (hU.ext hE).get (i := j) (by rw [HM.out]; exact hlt)
    rw [ht] at ht'
    obtain rfl := Option.some.inj ht'
    rw [Nat.mul_comm 3 j] at q0 q1 q2 r0 r1 r2
    obtain ⟨a1, b1, c1, a2, b2, c2, a3, b3, c3, hvv⟩ := hTT.shape
    simp at hvv
    obtain ⟨rfl, rfl, rfl⟩ := hvv
    obtain ⟨d1, e1, f1, d2, e2, f2, d3, e3, f3, hvv⟩ := hUU.shape
    simp at hvv
    obtain ⟨rfl, rfl, rfl⟩ := hvv
    clear ht ht'
    go_upto_region 6 with fail
    go_region_held3 (fun w' => w'.cell? ⟨bV, oV + j * 3, none⟩ = some (.slice a1 b1 c1) ∧ w'.cell? ⟨bV, oV + j * 3 + 1, none⟩ = some (.slice a2 b2 c2) ∧ w'.cell? ⟨bV, oV + j * 3 + 2, none⟩ = some (.slice a3 b3 c3) ∧
     w'.cell? ⟨bU, oU + j * 3, none⟩ = some (.slice d1 e1 f1) ∧ w'.cell? ⟨bU, oU + j * 3 + 1, none⟩ = some (.slice d2 e2 f2) ∧ w'.cell? ⟨bU, oU + j * 3 + 2, none⟩ = some (.slice d3 e3 f3) ∧ Ext wq w')
     (refine ⟨?_, ?_, ?_, ?_, ?_, ?_, ?_⟩ <;> first | assumption | exact (Ext.refl _).drew | (simp [*]; done))
     (first | (go_at_call 76; refine (eqTensor_any _ _ t.1 t.2.1 t.2.2 _ (hTT.ext (by repeat' (first | (with_reducible first | exact Ext.refl _ | assumption | apply Ext.alloc | apply Ext.drew | apply Ext.drewN) | (refine Ext.setAt ?_ (by omega) _ _) | (refine Ext.trans ?_ (by assumption))))) (hUU.ext (by repeat' (first | (with_reducible first | exact Ext.refl _ | assumption | apply Ext.alloc | apply Ext.drew | apply Ext.drewN) | (refine Ext.setAt ?_ (by omega) _ _) | (refine Ext.trans ?_ (by assumption)))))).mono ?_; rintro e6 w6 ⟨rfl, h6⟩; have g1 : Ext wq w6 := (by repeat' (first | (with_reducible first | exact Ext.refl _ | assumption | apply Ext.alloc | apply Ext.drew | apply Ext.drewN) | (refine Ext.setAt ?_ (by omega) _ _) | (refine Ext.trans ?_ (by assumption)))); have y0 := g1.cell q0; have y1 := g1.cell q1; have y2 := g1.cell q2; have z0 := g1.cell r0; have z1 := g1.cell r1; have z2 := g1.cell r2) | fail)
    all_goals
     go_wp2_with fail
     go_roundw
     case rel => exact ⟨j + 1, by omega, by go_num, hE.trans (by assumption)⟩
     case measure => simp [RowKit.intOf]; omega
  · have hje : j = m := by omega
    subst hje
    go_wp2
    go_ret
    exact ⟨rfl, hE⟩
end Go.Proofs.YtlgjddgajdjllaaGreatDoor
