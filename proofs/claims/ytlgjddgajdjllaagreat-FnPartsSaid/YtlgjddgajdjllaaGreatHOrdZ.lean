/- contract of an order's state. -/
import Derived.Test.YtlgjddgajdjllaaGreatHG16
set_option linter.unusedSimpArgs false
set_option linter.unusedVariables false
namespace Go.Proofs.YtlgjddgajdjllaaGreat
open Go.RowKit
theorem drop2_two {α β : Type} {cs : List α} {ls : List β} (hl0 : cs.length = ls.length) (i j : Nat) {c0 : α} {l0 : β} {q : Nat} {c : α} {t : β} (hc : (drop2 cs i j ++ [c0])[q]? = some c) (ht : (drop2 ls i j ++ [l0])[q]? = some t) : (∃ q' : Nat, cs[q']? = some c ∧ ls[q']? = some t) ∨ (c = c0 ∧ t = l0) := by
  obtain ⟨z, hz1, hz2⟩ : ∃ z : List (α × β), z.map (·.1) = cs ∧ z.map (·.2) = ls := ⟨cs.zip ls, by rw [List.map_fst_zip]; exact Nat.le_of_eq hl0, by rw [List.map_snd_zip]; exact Nat.le_of_eq hl0.symm⟩
  have e1 : drop2 cs i j = (drop2 z i j).map (·.1) := by rw [← hz1, drop2_map]
  have e2 : drop2 ls i j = (drop2 z i j).map (·.2) := by rw [← hz2, drop2_map]
  have hl : (drop2 cs i j).length = (drop2 ls i j).length := by rw [e1, e2, List.length_map, List.length_map]
  rcases Nat.lt_or_ge q (drop2 ls i j).length with hq | hq
  · rw [List.getElem?_append_left (by omega)] at hc
    rw [List.getElem?_append_left hq] at ht
    left
    rw [e1, List.getElem?_map] at hc
    rw [e2, List.getElem?_map] at ht
    obtain ⟨y, hy, rfl⟩ := Option.map_eq_some_iff.1 hc
    rw [hy] at ht
    cases ht
    obtain ⟨q', _, hq'⟩ := mem_drop2.1 (List.mem_of_getElem? hy)
    exact ⟨q', by rw [← hz1, List.getElem?_map, hq']; rfl, by rw [← hz2, List.getElem?_map, hq']; rfl⟩
  · rw [List.getElem?_append_right (by omega)] at hc
    rw [List.getElem?_append_right hq] at ht
    right
    have e0 : q - (drop2 ls i j).length = 0 := by
      have := (List.getElem?_eq_some_iff.1 ht).1
      simp at this; omega
    rw [e0] at ht
    rw [show q - (drop2 cs i j).length = 0 by omega] at hc
    simp at hc ht
    exact ⟨hc.symm, ht.symm⟩
theorem drop2_len2 {α β : Type} {cs : List α} {ls : List β} (hl0 : cs.length = ls.length) (i j : Nat) : (drop2 cs i j).length = (drop2 ls i j).length := by
  obtain ⟨z, hz1, hz2⟩ : ∃ z : List (α × β), z.map (·.1) = cs ∧ z.map (·.2) = ls := ⟨cs.zip ls, by rw [List.map_fst_zip]; exact Nat.le_of_eq hl0, by rw [List.map_snd_zip]; exact Nat.le_of_eq hl0.symm⟩
  rw [← hz1, ← hz2, drop2_map, drop2_map, List.length_map, List.length_map]
theorem LiveR.step {w w' : World} {s : Nat} {v v' : Value} {cs : List (Int × Value)} {ls : List (List Int)} (h : LiveR w s v cs ls) (g : w.grownBy w' (some s)) (i j : Nat) {nx : Int} {u : Value} {l : List Int} {m : Nat} (hm : m = (drop2 cs i j).length + 1) (hr : Row w' 2 v' m ((drop2 cs i j).flatMap cells2 ++ [.int .i64 nx, u])) (hv : v'.ownBlock ≠ some s) (hu : IntS w' u l) (hus : u.ownBlock ≠ some s) :
    LiveR w' s v' (drop2 cs i j ++ [(nx, u)]) (drop2 ls i j ++ [l]) := by
  have hl := drop2_len2 h.len i j
  have all : ∀ (q : Nat) (c : Int × Value) (t : List Int), (drop2 cs i j ++ [(nx, u)])[q]? = some c → (drop2 ls i j ++ [l])[q]? = some t → IntS w' c.2 t ∧ (0 < t.length → c.2.ownBlock ≠ some s) := by
    intro q c t hc ht
    rcases drop2_two h.len i j hc ht with ⟨q', a, b⟩ | ⟨rfl, rfl⟩
    · exact ⟨(h.elem q' c t a b).keep g (h.offs q' c t a b), h.offs q' c t a b⟩
    · exact ⟨hu, fun _ => hus⟩
  have hm2 : (drop2 ls i j ++ [l]).length = m := by rw [List.length_append, List.length_singleton]; omega
  refine ⟨by simp [hl], ?_, fun q c t hc ht => (all q c t hc ht).1, fun _ => hv, fun q c t hc ht => (all q c t hc ht).2⟩
  rw [hm2, List.flatMap_append]
  exact hr
theorem LiveR.stepz {w w' : World} {s z : Nat} {v v' : Value} {cs : List (Int × Value)} {ls : List (List Int)} (h : LiveR w z v cs ls) (i j : Nat) {nx : Int} {u : Value} {l : List Int} (h' : LiveR w' s v' (drop2 cs i j ++ [(nx, u)]) (drop2 ls i j ++ [l])) (hv : v'.ownBlock ≠ some z) (hu : u.ownBlock ≠ some z) : LiveR w' z v' (drop2 cs i j ++ [(nx, u)]) (drop2 ls i j ++ [l]) :=
  ⟨h'.len, h'.row, h'.elem, fun _ => hv, fun q c t hc ht hp => by
    rcases drop2_two h.len i j hc ht with ⟨q', a, b⟩ | ⟨rfl, rfl⟩
    · exact h.offs q' c t a b hp
    · exact hu⟩
theorem LiveR.at {w w' : World} {s z : Nat} {v : Value} {cs : List (Int × Value)} {ls : List (List Int)} (h : LiveR w' z v cs ls) (h2 : LiveR w s v cs ls) : LiveR w' s v cs ls := ⟨h.len, h.row, h.elem, h2.off, h2.offs⟩
structure OrdA (w : World) (s z : Nat) (A : List Int) (op : List Int) (cs : List (Int × Value)) (ls : List (List Int)) (nx : Int) : Prop where
  has : ∃ ov lv, Blk w s 123 (Proofs.YtlgjddgajdjllaaGreat.ints A ++ [ov, lv, .int .i64 nx]) ∧ IntS w ov op ∧ (0 < op.length → ov.ownBlock ≠ some s) ∧ LiveR w s lv cs ls ∧ (0 < op.length → ov.ownBlock ≠ some z) ∧ LiveR w z lv cs ls
section
variable {w w' : World} {s z : Nat} {A op : List Int} {cs : List (Int × Value)} {ls : List (List Int)} {nx : Int}
theorem OrdA.toS (h : OrdA w s z A op cs ls nx) : OrdS w s A op cs ls nx := by
  obtain ⟨ov, lv, a, b, c, d, _⟩ := h.has
  exact ⟨ov, lv, a, b, c, d⟩
theorem OrdA.ofS (h : OrdS w s A op cs ls nx) : OrdA w s s A op cs ls nx := by
  obtain ⟨ov, lv, a, b, c, d⟩ := h.has
  exact ⟨ov, lv, a, b, c, d, c, d⟩
theorem OrdA.ext (h : OrdA w s z A op cs ls nx) (e : Ext w w') : OrdA w' s z A op cs ls nx := by
  obtain ⟨ov, lv, a, b, c, d, f, g⟩ := h.has
  exact ⟨ov, lv, a.ext e, b.ext e, c, d.ext e, f, g.ext e⟩
theorem OrdA.keepz (h : OrdA w s z A op cs ls nx) (e : w.grownBy w' (some z)) (hne : s ≠ z) : OrdA w' s z A op cs ls nx := by
  obtain ⟨ov, lv, a, b, c, d, f, g⟩ := h.has
  exact ⟨ov, lv, a.block (e.block s a.lt (by simpa using hne)), b.keep e f, c, (g.keep e).at d, f, g.keep e⟩
theorem row_block_lt {w : World} {size n : Nat} {v : Value} {xs : List Value} (h : Row w size v n xs) (hp : 0 < xs.length) {b : Nat} (hb : v.ownBlock = some b) : b < w.heap.size := by
  obtain ⟨_, a, cap, hv, _, _, h3⟩ := h
  obtain ⟨q, o, ha, hc⟩ := h3 hp
  subst hv ha
  have c1 := hc 0 xs[0] (List.getElem?_eq_getElem hp)
  simp [Value.ownBlock] at hb
  subst hb
  exact World.block_lt_of_cell? _ _ c1
theorem OrdA.new (h : OrdS w s A op cs ls nx) (hz : w.heap.size ≤ z) : OrdA w s z A op cs ls nx := by
  obtain ⟨ov, lv, a, b, c, d⟩ := h.has
  refine ⟨ov, lv, a, b, c, d, fun hp e => ?_, ⟨d.len, d.row, d.elem, fun hp e => ?_, fun q c t hc ht hp e => ?_⟩⟩
  · have := row_block_lt b.row (by rwa [ints_length]) e; omega
  · have := row_block_lt d.row (by rw [cells2_len, d.len]; omega) e; omega
  · have := row_block_lt (d.elem q c t hc ht).row (by rwa [ints_length]) e; omega
end
theorem row_one2 (w : World) (x y : Value) (T : TypeId) : Row (w.alloc (.cells #[x, y] T)) 2 (.slice (some ⟨w.heap.size, 0, none⟩) 1 1) 1 [x, y] := row_blk2 (Blk.new w #[x, y] T)
theorem HeldX.setB2 {ex : Option Nat} {a w : World} {L : List Asn} {b k : Nat} {T : TypeId} {p q : Value} (h : HeldX ex a w L) (hk : L[k]? = some (aB b T [p, q])) (x y : Value) : HeldX ex a ((w.setCell ⟨b, 0, none⟩ x).setCell ⟨b, 1, none⟩ y) (L.set k (aB b T [x, y])) := by
  have hlt : k < L.length := (List.getElem?_eq_some_iff.1 hk).1
  have h1 := h.setB hk 0 x
  have h2 := h1.setB (List.getElem?_set_self hlt) 1 y
  rw [set_set_same] at h2
  exact h2
theorem HeldX.exempt {a w : World} {L : List Asn} (h : Held a w L) (s : Nat) : HeldX (some s) a w L := ⟨h.ext.gr (some s), h.all, h.apart⟩
theorem HeldX.not_fp {ex : Option Nat} {a w : World} {L : List Asn} {k : Nat} {A : Asn} (h : HeldX ex a w L) (hk : L[k]? = some A) {s : Nat} (hs : s < a.heap.size) : s ∉ A.fp := fun e => by
  have := (h.fpr hk s e).1; omega
set_option maxRecDepth 100000 in
set_option maxHeartbeats 8000000 in
theorem contract_anyA {z : Nat} {s : Nat} {A op : List Int} {cs : List (Int × Value)} {ls : List (List Int)} {nx : Int} (hal : A.length = 100) (w : World) (hS : OrdA w s z A op cs ls nx) (hlen : ls.length ≤ 1000) (hrk : ∀ l ∈ ls, l.length ≤ 500) (i j : Nat) (hi : i < ls.length) (hj : j < ls.length) (hnx0 : 0 ≤ nx) (hnx1 : nx ≤ 2000) (hzl : z < w.heap.size) :
 Calls Tryz.prog 79 #[.pointer (some ⟨s, 0, none⟩), .int .i64 (i : Int), .int .i64 (j : Int)] w fun e w' => ∃ a b u, e = .returned (.agg #[.int .i64 a, .int .i64 b]) ∧ (cs[i]?.map (·.1)) = some a ∧ (cs[j]?.map (·.1)) = some b ∧ w.grownBy w' (some s) ∧ OrdA w' s z A op (drop2 cs i j ++ [(nx, u)]) (drop2 ls i j ++ [resL op ls i j]) (nx + 1) := by
 have hrr := fun (wx : World) (hS : OrdS wx s A op cs ls nx) => resultLabels_any hal wx hS hlen hrk i j hi hj
 have HRR := Lib.hid hrr; clear hrr
 have hA := hS; have hS := hA.toS; have HOS := Lib.hid hS
 have HRK := Lib.hid hrk; clear hrk
 obtain ⟨ov, lv, hB, hov, hovs, hLv, hovz, hLvz⟩ := hA.has
 obtain ⟨aV, cV, rfl, hcV1, hcV2⟩ := hLv.val
 obtain ⟨aO, cO, rfl, hcO1, hcO2⟩ := hov.val
 obtain ⟨m, hm⟩ : ∃ m, ls.length = m := ⟨_, rfl⟩
 rw [hm] at hLv hcV1 hlen hB
 have HM := Lib.hid hm
 have hcm : cs.length = m := by rw [hLv.len]; exact hm
 have HCM := Lib.hid hcm; clear hm hcm
 have HAL := Lib.hid hal
 have k100 := (state_100 hal hB).1
 have k101 := (state_100 hal hB).2.1
 have k102 := (state_100 hal hB).2.2
 have kst := hB.lt
 clear hal
 have HI : Hid (i < m) := Lib.hid (by have := HM.out; omega); have HJ : Hid (j < m) := Lib.hid (by have := HM.out; omega)
 clear hi hj; have hi := HI.out; have hj := HJ.out
 obtain ⟨RL, hRL⟩ : ∃ q, resL op ls i j = q := ⟨_, rfl⟩
 rw [hRL] at HRR ⊢
 clear hRL
 have HDN := Lib.hid (fun (q : Nat) (h : q = i ∨ q = j) => dropGo_no (l := cs) h)
 have HDY := Lib.hid (fun (q : Nat) (h : ¬ (q = i ∨ q = j)) (c : Int × Value) (hc : cs[q]? = some c) => dropGo_yes h hc)
 have HD0 : Hid (dropGo cs i j 0 = []) := Lib.hid rfl
 have HDE : Hid (dropGo cs i j m = drop2 cs i j) := Lib.hid (by unfold drop2; rw [HCM.out])
 have HDL := Lib.hid (fun q => dropGo_len cs i j q)
 obtain ⟨DG, hDG⟩ : ∃ q, dropGo cs i j = q := ⟨_, rfl⟩
 rw [hDG] at HDN HDY HD0 HDE HDL
 clear hDG
 obtain ⟨bL, oL, ca, la, hV, hcj, hlj, hq0a, hq1a, hIa⟩ := hLv.get (i := i) (by rw [HM.out]; exact hi)
 subst hV
 obtain ⟨na, ua⟩ := ca
 simp only at hq0a hq1a hIa
 obtain ⟨eaa, eca, rfl, _, _⟩ := hIa.val
 rw [Nat.mul_comm 2 i] at hq0a hq1a
 rw [← Nat.add_assoc] at hq1a
 have HCa := Lib.hid hcj; have HLa := Lib.hid hlj; clear hcj hlj
 obtain ⟨bL', oL', cb, lb, hV, hcj, hlj, hq0b, hq1b, hIb⟩ := hLv.get (i := j) (by rw [HM.out]; exact hj)
 cases hV
 obtain ⟨nb, ub⟩ := cb
 simp only at hq0b hq1b hIb
 obtain ⟨eab, ecb, rfl, _, _⟩ := hIb.val
 rw [Nat.mul_comm 2 j] at hq0b hq1b
 rw [← Nat.add_assoc] at hq1b
 have HCb := Lib.hid hcj; have HLb := Lib.hid hlj; clear hcj hlj
 have hH : Held w w [] := Held.new (Ext.refl w) 0
 go_enter Tryz.func79, Tryz.ntmps79
 have c_k100 := hH.ext.cell k100; have c_k101 := hH.ext.cell k101; have c_k102 := hH.ext.cell k102; have c_hq0a := hH.ext.cell hq0a; have c_hq1a := hH.ext.cell hq1a; have c_hq0b := hH.ext.cell hq0b; have c_hq1b := hH.ext.cell hq1b
 have c_kst := Nat.lt_of_lt_of_le kst hH.ext.size
 go_upto_region 1 with fail
 clear c_k100 c_k101 c_k102 c_hq0a c_hq1a c_hq0b c_hq1b c_kst
 obtain ⟨hB, hsz⟩ := hH.laid #[.int .i64 0, .int .i64 0] 66
 generalize w.alloc (.cells #[.int .i64 0, .int .i64 0] 66) = wn1 at hB hsz ⊢
 replace hH : Held w wn1 [aB (w.heap.size) 66 [.int .i64 0, .int .i64 0]] := hB
 have HSZwn1 := Lib.hid (show wn1.heap.size = w.heap.size + 1 by rw [hsz]); clear hB hsz
 obtain ⟨wz, rfl⟩ : ∃ q, q = wn1 := ⟨wn1, rfl⟩
 replace hH := hH.mores 1
 replace hH : Held w wz [aB (w.heap.size) 66 [.int .i64 0, .int .i64 0], emp] := hH
 refine wp_region_steps ?Fa (fun b t wx => Held w wx [aB (w.heap.size) 66 [.int .i64 0, .int .i64 0], (bif b 18 then aB (blkOf (t 17)) 66 [.int .i64 na, .int .i64 nb] else (bif b 17 then aB (blkOf (t 17)) 66 [.int .i64 0, .int .i64 0] else emp))] ∧ (b 0 = true → t 0 = .pointer (some ⟨s, 0, none⟩)) ∧ (b 1 = true → t 1 = .pointer (some ⟨s, 0, none⟩)) ∧ (b 2 = true → t 2 = .pointer (some ⟨s, 101, none⟩)) ∧ (b 3 = true → t 3 = .slice (some ⟨bL, oL, none⟩) m cV) ∧ (b 4 = true → t 4 = .int .i64 (i : Int)) ∧ (b 5 = true → t 5 = .pointer (some ⟨bL, oL + i * 2, none⟩)) ∧ (b 6 = true → t 6 = .pointer (some ⟨bL, oL + i * 2, none⟩)) ∧ (b 7 = true → t 7 = .int .i64 na) ∧ (b 8 = true → t 8 = .pointer (some ⟨s, 0, none⟩)) ∧ (b 9 = true → t 9 = .pointer (some ⟨s, 0, none⟩)) ∧ (b 10 = true → t 10 = .pointer (some ⟨s, 101, none⟩)) ∧ (b 11 = true → t 11 = .slice (some ⟨bL, oL, none⟩) m cV) ∧ (b 12 = true → t 12 = .int .i64 (j : Int)) ∧ (b 13 = true → t 13 = .pointer (some ⟨bL, oL + j * 2, none⟩)) ∧ (b 14 = true → t 14 = .pointer (some ⟨bL, oL + j * 2, none⟩)) ∧ (b 15 = true → t 15 = .int .i64 nb) ∧ (b 16 = true → t 16 = .agg #[.int .i64 na, .int .i64 nb]) ∧ (b 17 = true → ∃ q, t 17 = .pointer (some ⟨q, 0, none⟩))) ?hFa (by kernel_rfl) (by kernel_rfl) ?hJa ?hSa ?hEa
 (case hFa => intro t; simp only [putAll, Act.put, List.setIfInBounds_toArray, List.set_cons_zero, List.set_cons_succ, Nat.reduceAdd, Nat.zero_add]; exact rfl)
 case hJa => exact ⟨hH.grow ((Ext.refl _).drew), nof, nof, nof, nof, nof, nof, nof, nof, nof, nof, nof, nof, nof, nof, nof, nof, nof, nof⟩
 case hSa => as_aux_lemma =>
  refine st 1 rfl (fun b t wx hJ hb hd hcl Kc hK => ?_) ?_
  · obtain ⟨hH, hV⟩ := hJ
    have c_k101 := hH.ext.cell k101; have c_hq0a := hH.ext.cell hq0a; have c_hq0b := hH.ext.cell hq0b
    go_simp
    apply sk hK
    · rfl
    exact ⟨hH, rp (fun _ => rfl) hV⟩
  refine st 2 rfl (fun b t wx hJ hb hd hcl Kc hK => ?_) ?_
  · obtain ⟨hH, hV⟩ := hJ
    have d0 := so hd 0; have r0 := hV.1 d0; have c_k101 := hH.ext.cell k101; have c_hq0a := hH.ext.cell hq0a; have c_hq0b := hH.ext.cell hq0b
    go_simp
    apply sk hK
    · (try simp only [r0]); rfl
    exact ⟨hH, jA (rp (fun _ => rfl)) hV⟩
  refine st 3 rfl (fun b t wx hJ hb hd hcl Kc hK => ?_) ?_
  · obtain ⟨hH, hV⟩ := hJ
    have d1 := so hd 1; have r1 := hV.2.1 d1; have c_k101 := hH.ext.cell k101; have c_hq0a := hH.ext.cell hq0a; have c_hq0b := hH.ext.cell hq0b
    go_simp
    apply sk hK
    · (try simp only [r1]); rfl
    exact ⟨hH, jB (rp (fun _ => rfl)) hV⟩
  refine st 4 rfl (fun b t wx hJ hb hd hcl Kc hK => ?_) ?_
  · obtain ⟨hH, hV⟩ := hJ
    have d2 := so hd 2; have r2 := hV.2.2.1 d2; have c_k101 := hH.ext.cell k101; have c_hq0a := hH.ext.cell hq0a; have c_hq0b := hH.ext.cell hq0b
    go_simp
    apply sk hK
    · (try simp only [r2]); rfl
    exact ⟨hH, jB (jA (rp (fun _ => rfl))) hV⟩
  refine st 5 rfl (fun b t wx hJ hb hd hcl Kc hK => ?_) ?_
  · obtain ⟨hH, hV⟩ := hJ
    have c_k101 := hH.ext.cell k101; have c_hq0a := hH.ext.cell hq0a; have c_hq0b := hH.ext.cell hq0b
    go_simp
    apply sk hK
    · rfl
    exact ⟨hH, jD (rp (fun _ => rfl)) hV⟩
  refine st 6 rfl (fun b t wx hJ hb hd hcl Kc hK => ?_) ?_
  · obtain ⟨hH, hV⟩ := hJ
    have d3 := so hd 3; have d4 := so hd 4; have r3 := hV.2.2.2.1 d3; have r4 := hV.2.2.2.2.1 d4; have c_k101 := hH.ext.cell k101; have c_hq0a := hH.ext.cell hq0a; have c_hq0b := hH.ext.cell hq0b
    go_simp
    apply sk hK
    · (try simp only [r3, r4]); rfl
    exact ⟨hH, jD (jA (rp (fun _ => rfl))) hV⟩
  refine st 7 rfl (fun b t wx hJ hb hd hcl Kc hK => ?_) ?_
  · obtain ⟨hH, hV⟩ := hJ
    have d5 := so hd 5; have r5 := hV.2.2.2.2.2.1 d5; have c_k101 := hH.ext.cell k101; have c_hq0a := hH.ext.cell hq0a; have c_hq0b := hH.ext.cell hq0b
    go_simp
    apply sk hK
    · (try simp only [r5]); rfl
    exact ⟨hH, jD (jB (rp (fun _ => rfl))) hV⟩
  refine st 8 rfl (fun b t wx hJ hb hd hcl Kc hK => ?_) ?_
  · obtain ⟨hH, hV⟩ := hJ
    have d6 := so hd 6; have r6 := hV.2.2.2.2.2.2.1 d6; have c_k101 := hH.ext.cell k101; have c_hq0a := hH.ext.cell hq0a; have c_hq0b := hH.ext.cell hq0b
    go_simp
    apply sk hK
    · (try simp only [r6]); rfl
    exact ⟨hH, jD (jB (jA (rp (fun _ => rfl)))) hV⟩
  refine st 9 rfl (fun b t wx hJ hb hd hcl Kc hK => ?_) ?_
  · obtain ⟨hH, hV⟩ := hJ
    have c_k101 := hH.ext.cell k101; have c_hq0a := hH.ext.cell hq0a; have c_hq0b := hH.ext.cell hq0b
    go_simp
    apply sk hK
    · rfl
    exact ⟨hH, jD (jD (rp (fun _ => rfl))) hV⟩
  refine st 10 rfl (fun b t wx hJ hb hd hcl Kc hK => ?_) ?_
  · obtain ⟨hH, hV⟩ := hJ
    have d8 := so hd 8; have r8 := hV.2.2.2.2.2.2.2.2.1 d8; have c_k101 := hH.ext.cell k101; have c_hq0a := hH.ext.cell hq0a; have c_hq0b := hH.ext.cell hq0b
    go_simp
    apply sk hK
    · (try simp only [r8]); rfl
    exact ⟨hH, jD (jD (jA (rp (fun _ => rfl)))) hV⟩
  refine st 11 rfl (fun b t wx hJ hb hd hcl Kc hK => ?_) ?_
  · obtain ⟨hH, hV⟩ := hJ
    have d9 := so hd 9; have r9 := hV.2.2.2.2.2.2.2.2.2.1 d9; have c_k101 := hH.ext.cell k101; have c_hq0a := hH.ext.cell hq0a; have c_hq0b := hH.ext.cell hq0b
    go_simp
    apply sk hK
    · (try simp only [r9]); rfl
    exact ⟨hH, jD (jD (jB (rp (fun _ => rfl)))) hV⟩
  refine st 12 rfl (fun b t wx hJ hb hd hcl Kc hK => ?_) ?_
  · obtain ⟨hH, hV⟩ := hJ
    have d10 := so hd 10; have r10 := hV.2.2.2.2.2.2.2.2.2.2.1 d10; have c_k101 := hH.ext.cell k101; have c_hq0a := hH.ext.cell hq0a; have c_hq0b := hH.ext.cell hq0b
    go_simp
    apply sk hK
    · (try simp only [r10]); rfl
    exact ⟨hH, jD (jD (jB (jA (rp (fun _ => rfl))))) hV⟩
  refine st 13 rfl (fun b t wx hJ hb hd hcl Kc hK => ?_) ?_
  · obtain ⟨hH, hV⟩ := hJ
    have c_k101 := hH.ext.cell k101; have c_hq0a := hH.ext.cell hq0a; have c_hq0b := hH.ext.cell hq0b
    go_simp
    apply sk hK
    · rfl
    exact ⟨hH, jD (jD (jD (rp (fun _ => rfl)))) hV⟩
  refine st 14 rfl (fun b t wx hJ hb hd hcl Kc hK => ?_) ?_
  · obtain ⟨hH, hV⟩ := hJ
    have d11 := so hd 11; have d12 := so hd 12; have r11 := hV.2.2.2.2.2.2.2.2.2.2.2.1 d11; have r12 := hV.2.2.2.2.2.2.2.2.2.2.2.2.1 d12; have c_k101 := hH.ext.cell k101; have c_hq0a := hH.ext.cell hq0a; have c_hq0b := hH.ext.cell hq0b
    go_simp
    apply sk hK
    · (try simp only [r11, r12]); rfl
    exact ⟨hH, jD (jD (jD (jA (rp (fun _ => rfl))))) hV⟩
  refine st 15 rfl (fun b t wx hJ hb hd hcl Kc hK => ?_) ?_
  · obtain ⟨hH, hV⟩ := hJ
    have d13 := so hd 13; have r13 := hV.2.2.2.2.2.2.2.2.2.2.2.2.2.1 d13; have c_k101 := hH.ext.cell k101; have c_hq0a := hH.ext.cell hq0a; have c_hq0b := hH.ext.cell hq0b
    go_simp
    apply sk hK
    · (try simp only [r13]); rfl
    exact ⟨hH, jD (jD (jD (jB (rp (fun _ => rfl))))) hV⟩
  refine st 16 rfl (fun b t wx hJ hb hd hcl Kc hK => ?_) ?_
  · obtain ⟨hH, hV⟩ := hJ
    have d14 := so hd 14; have r14 := hV.2.2.2.2.2.2.2.2.2.2.2.2.2.2.1 d14; have c_k101 := hH.ext.cell k101; have c_hq0a := hH.ext.cell hq0a; have c_hq0b := hH.ext.cell hq0b
    go_simp
    apply sk hK
    · (try simp only [r14]); rfl
    exact ⟨hH, jD (jD (jD (jB (jA (rp (fun _ => rfl)))))) hV⟩
  refine st 17 rfl (fun b t wx hJ hb hd hcl Kc hK => ?_) ?_
  · obtain ⟨hH, hV⟩ := hJ
    have d7 := so hd 7; have d15 := so hd 15; have r7 := hV.2.2.2.2.2.2.2.1 d7; have r15 := hV.2.2.2.2.2.2.2.2.2.2.2.2.2.2.2.1 d15; have c_k101 := hH.ext.cell k101; have c_hq0a := hH.ext.cell hq0a; have c_hq0b := hH.ext.cell hq0b
    go_simp
    apply sk hK
    · (try simp only [r7, r15]); rfl
    exact ⟨hH, jD (jD (jD (jD (rp (fun _ => rfl))))) hV⟩
  refine st 18 rfl (fun b t wx hJ hb hd hcl Kc hK => ?_) ?_
  · obtain ⟨hH, hV⟩ := hJ
    have n18 : b 18 = false := nf hb fun h => sc hcl 18 17 (h)
    have hN := hH; (try simp only [hb, n18, cond_true, cond_false] at hN)
    go_simp
    apply sk hK
    · rfl
    exact ⟨by have hX := hN.addB 1 #[.int .i64 0, .int .i64 0] 66; simpa only [List.set_cons_zero, List.set_cons_succ, updB, updV, blkOf_mk, tup0_mk, partsOf3, Nat.reduceBEq, cond_true, cond_false, hb, n18] using hX, jD (jD (jD (jD (jA (fun _ => fun _ => ⟨_, rfl⟩))))) hV⟩
  refine st 19 rfl (fun b t wx hJ hb hd hcl Kc hK => ?_) ?_
  · obtain ⟨hH, hV⟩ := hJ
    have d0 := so hd 0; have d1 := so hd 1; have d2 := so hd 2; have d3 := so hd 3; have d4 := so hd 4; have d5 := so hd 5; have d6 := so hd 6; have d7 := so hd 7; have d8 := so hd 8; have d9 := so hd 9; have d10 := so hd 10; have d11 := so hd 11; have d12 := so hd 12; have d13 := so hd 13; have d14 := so hd 14; have d15 := so hd 15; have d16 := so hd 16; have d17 := so hd 17; have r0 := hV.1 d0; have r1 := hV.2.1 d1; have r2 := hV.2.2.1 d2; have r3 := hV.2.2.2.1 d3; have r4 := hV.2.2.2.2.1 d4; have r5 := hV.2.2.2.2.2.1 d5; have r6 := hV.2.2.2.2.2.2.1 d6; have r7 := hV.2.2.2.2.2.2.2.1 d7; have r8 := hV.2.2.2.2.2.2.2.2.1 d8; have r9 := hV.2.2.2.2.2.2.2.2.2.1 d9; have r10 := hV.2.2.2.2.2.2.2.2.2.2.1 d10; have r11 := hV.2.2.2.2.2.2.2.2.2.2.2.1 d11; have r12 := hV.2.2.2.2.2.2.2.2.2.2.2.2.1 d12; have r13 := hV.2.2.2.2.2.2.2.2.2.2.2.2.2.1 d13; have r14 := hV.2.2.2.2.2.2.2.2.2.2.2.2.2.2.1 d14; have r15 := hV.2.2.2.2.2.2.2.2.2.2.2.2.2.2.2.1 d15; have r16 := hV.2.2.2.2.2.2.2.2.2.2.2.2.2.2.2.2.1 d16; have r17 := hV.2.2.2.2.2.2.2.2.2.2.2.2.2.2.2.2.2 d17
    obtain ⟨q_17, r17⟩ := r17
    have hN := hH; (try simp only [hb, d0, d1, d2, d3, d4, d5, d6, d7, d8, d9, d10, d11, d12, d13, d14, d15, d16, d17, cond_true, cond_false] at hN)
    simp only [r17, r16, blkOf_mk] at hN
    have B := hN.blk (k := 1) rfl
    have f0 := B.free 0; have f1 := B.free 1; have z0 := B.cell (j := 0) rfl; have z1 := B.cell (j := 1) rfl; have lB := B.lt
    go_simp
    refine hK.out _ undef _ ?_ ?_; rotate_left 1
    · (try simp only [r0, r1, r2, r3, r4, r5, r6, r7, r8, r9, r10, r11, r12, r13, r14, r15, r16, r17]); rfl
    exact ⟨by have hX := hN.setB2 (k := 1) rfl (.int .i64 na) (.int .i64 nb); simpa only [List.set_cons_zero, List.set_cons_succ, updB, updV, blkOf_mk, tup0_mk, partsOf3, Nat.reduceBEq, cond_true, cond_false, hb, d0, d1, d2, d3, d4, d5, d6, d7, d8, d9, d10, d11, d12, d13, d14, d15, d16, d17, r0, r1, r2, r3, r4, r5, r6, r7, r8, r9, r10, r11, r12, r13, r14, r15, r16, r17] using hX, hV⟩
  exact AllSteps.nil
 intro b t wa hJ hall
 obtain ⟨hHa, v0, v1, v2, v3, v4, v5, v6, v7, v8, v9, v10, v11, v12, v13, v14, v15, v16, v17⟩ := hJ
 have a0 := hall 0 (by decide); have a1 := hall 1 (by decide); have a2 := hall 2 (by decide); have a3 := hall 3 (by decide); have a4 := hall 4 (by decide); have a5 := hall 5 (by decide); have a6 := hall 6 (by decide); have a7 := hall 7 (by decide); have a8 := hall 8 (by decide); have a9 := hall 9 (by decide); have a10 := hall 10 (by decide); have a11 := hall 11 (by decide); have a12 := hall 12 (by decide); have a13 := hall 13 (by decide); have a14 := hall 14 (by decide); have a15 := hall 15 (by decide); have a16 := hall 16 (by decide); have a17 := hall 17 (by decide); have a18 := hall 18 (by decide)
 (try simp only [a0, a1, a2, a3, a4, a5, a6, a7, a8, a9, a10, a11, a12, a13, a14, a15, a16, a17, a18, cond_true] at hHa)
 replace v0 := v0 a0; replace v1 := v1 a1; replace v2 := v2 a2; replace v3 := v3 a3; replace v4 := v4 a4; replace v5 := v5 a5; replace v6 := v6 a6; replace v7 := v7 a7; replace v8 := v8 a8; replace v9 := v9 a9; replace v10 := v10 a10; replace v11 := v11 a11; replace v12 := v12 a12; replace v13 := v13 a13; replace v14 := v14 a14; replace v15 := v15 a15; replace v16 := v16 a16; replace v17 := v17 a17
 clear hall a0 a1 a2 a3 a4 a5 a6 a7 a8 a9 a10 a11 a12 a13 a14 a15 a16 a17 a18
 generalize t 17 = x17 at hHa v17 ⊢; generalize t 16 = x16 at hHa v16 ⊢; generalize t 15 = x15 at hHa v15 ⊢; generalize t 14 = x14 at hHa v14 ⊢; generalize t 13 = x13 at hHa v13 ⊢; generalize t 12 = x12 at hHa v12 ⊢; generalize t 11 = x11 at hHa v11 ⊢; generalize t 10 = x10 at hHa v10 ⊢; generalize t 9 = x9 at hHa v9 ⊢; generalize t 8 = x8 at hHa v8 ⊢; generalize t 7 = x7 at hHa v7 ⊢; generalize t 6 = x6 at hHa v6 ⊢; generalize t 5 = x5 at hHa v5 ⊢; generalize t 4 = x4 at hHa v4 ⊢; generalize t 3 = x3 at hHa v3 ⊢; generalize t 2 = x2 at hHa v2 ⊢; generalize t 1 = x1 at hHa v1 ⊢; generalize t 0 = x0 at hHa v0 ⊢; subst v0; subst v1; subst v2; subst v3; subst v4; subst v5; subst v6; subst v7; subst v8; subst v9; subst v10; subst v11; subst v12; subst v13; subst v14; subst v15; subst v16
 obtain ⟨qa17, rfl⟩ := v17
 simp only [blkOf_mk, tup0_mk, partsOf3] at hHa
 clear b
 replace hH := hHa; clear hHa
 replace hH : Held w wa [aB (w.heap.size) 66 [.int .i64 0, .int .i64 0], aB qa17 66 [.int .i64 na, .int .i64 nb]] := hH
 obtain ⟨wy, rfl⟩ : ∃ q, q = wa := ⟨wa, rfl⟩
 have q0_0 := hH.cl 0 0 rfl rfl; have q0_1 := hH.cl 0 1 rfl rfl; have l0_ := hH.bl 0 rfl; have q1_0 := hH.cl 1 0 rfl rfl; have q1_1 := hH.cl 1 1 rfl rfl; have l1_ := hH.bl 1 rfl; have c_k100 := hH.ext.cell k100; have c_k101 := hH.ext.cell k101; have c_k102 := hH.ext.cell k102; have c_hq0a := hH.ext.cell hq0a; have c_hq1a := hH.ext.cell hq1a; have c_hq0b := hH.ext.cell hq0b; have c_hq1b := hH.ext.cell hq1b
 have c_kst := Nat.lt_of_lt_of_le kst hH.ext.size
 go_upto_region 2 with fail
 clear q0_0 q0_1 l0_ q1_0 q1_1 l1_ c_k100 c_k101 c_k102 c_hq0a c_hq1a c_hq0b c_hq1b c_kst
 replace hH := hH.mores 2
 replace hH : Held w wy [aB (w.heap.size) 66 [.int .i64 0, .int .i64 0], aB qa17 66 [.int .i64 na, .int .i64 nb], emp, emp] := hH
 refine wp_region_steps ?Fb (fun b t wx => Held w wx [aB (w.heap.size) 66 [.int .i64 0, .int .i64 0], aB qa17 66 [.int .i64 na, .int .i64 nb], (bif b 7 then aI (t 7) RL else emp), (bif b 10 then aB (blkOf (t 9)) 125 [.int .i64 nx, t 7] else (bif b 9 then aB (blkOf (t 9)) 125 [.int .i64 0, .slice none 0 0] else emp))] ∧ (b 0 = true → t 0 = .pointer (some ⟨s, 0, none⟩)) ∧ (b 1 = true → t 1 = .pointer (some ⟨s, 0, none⟩)) ∧ (b 2 = true → t 2 = .pointer (some ⟨s, 102, none⟩)) ∧ (b 3 = true → t 3 = .int .i64 nx) ∧ (b 4 = true → t 4 = .pointer (some ⟨s, 0, none⟩)) ∧ (b 5 = true → t 5 = .int .i64 (i : Int)) ∧ (b 6 = true → t 6 = .int .i64 (j : Int)) ∧ (b 7 = true → ∃ x c, t 7 = .slice x RL.length c) ∧ (b 8 = true → t 8 = .agg #[.int .i64 nx, t 7]) ∧ (b 9 = true → ∃ q, t 9 = .pointer (some ⟨q, 0, none⟩))) ?hFb (by kernel_rfl) (by kernel_rfl) ?hJb ?hSb ?hEb
 (case hFb => intro t; simp only [putAll, Act.put, List.setIfInBounds_toArray, List.set_cons_zero, List.set_cons_succ, Nat.reduceAdd, Nat.zero_add]; exact rfl)
 case hJb => exact ⟨hH.grow ((Ext.refl _).drew), nof, nof, nof, nof, nof, nof, nof, nof, nof, nof⟩
 case hSb => as_aux_lemma =>
  refine st 1 rfl (fun b t wx hJ hb hd hcl Kc hK => ?_) ?_
  · obtain ⟨hH, hV⟩ := hJ
    have c_k102 := hH.ext.cell k102
    go_simp
    apply sk hK
    · rfl
    exact ⟨hH, rp (fun _ => rfl) hV⟩
  refine st 2 rfl (fun b t wx hJ hb hd hcl Kc hK => ?_) ?_
  · obtain ⟨hH, hV⟩ := hJ
    have d0 := so hd 0; have r0 := hV.1 d0; have c_k102 := hH.ext.cell k102
    go_simp
    apply sk hK
    · (try simp only [r0]); rfl
    exact ⟨hH, jA (rp (fun _ => rfl)) hV⟩
  refine st 3 rfl (fun b t wx hJ hb hd hcl Kc hK => ?_) ?_
  · obtain ⟨hH, hV⟩ := hJ
    have d1 := so hd 1; have r1 := hV.2.1 d1; have c_k102 := hH.ext.cell k102
    go_simp
    apply sk hK
    · (try simp only [r1]); rfl
    exact ⟨hH, jB (rp (fun _ => rfl)) hV⟩
  refine st 4 rfl (fun b t wx hJ hb hd hcl Kc hK => ?_) ?_
  · obtain ⟨hH, hV⟩ := hJ
    have d2 := so hd 2; have r2 := hV.2.2.1 d2; have c_k102 := hH.ext.cell k102
    go_simp
    apply sk hK
    · (try simp only [r2]); rfl
    exact ⟨hH, jB (jA (rp (fun _ => rfl))) hV⟩
  refine st 5 rfl (fun b t wx hJ hb hd hcl Kc hK => ?_) ?_
  · obtain ⟨hH, hV⟩ := hJ
    have c_k102 := hH.ext.cell k102
    go_simp
    apply sk hK
    · rfl
    exact ⟨hH, jD (rp (fun _ => rfl)) hV⟩
  refine st 6 rfl (fun b t wx hJ hb hd hcl Kc hK => ?_) ?_
  · obtain ⟨hH, hV⟩ := hJ
    have c_k102 := hH.ext.cell k102
    go_simp
    apply sk hK
    · rfl
    exact ⟨hH, jD (jA (rp (fun _ => rfl))) hV⟩
  refine st 7 rfl (fun b t wx hJ hb hd hcl Kc hK => ?_) ?_
  · obtain ⟨hH, hV⟩ := hJ
    have c_k102 := hH.ext.cell k102
    go_simp
    apply sk hK
    · rfl
    exact ⟨hH, jD (jB (rp (fun _ => rfl))) hV⟩
  refine st 8 rfl (fun b t wx hJ hb hd hcl Kc hK => ?_) ?_
  · obtain ⟨hH, v0, v1, v2, v3, v4, v5, v6, v7, v8, v9⟩ := hJ
    have d4 := so hd 4; have d5 := so hd 5; have d6 := so hd 6
    have n8 : b 8 = false := nf hb fun h => sc hcl 8 7 (h)
    have n10 : b 10 = false := nf hb fun h => sc hcl 10 7 (h)
    have r4 := v4 d4; have r5 := v5 d5; have r6 := v6 d6
    have hN := hH; (try simp only [hb, d4, d5, d6, n8, n10, cond_true, cond_false] at hN)
    go_simp
    go_at_call 78
    refine (HRR.out _ (HOS.out.ext hH.ext)).mono ?_; rintro e7 w7 ⟨v7, rfl, o7, h7⟩
    obtain ⟨x7, c7, rfl⟩ := o7.shape1 RL.length rfl
    (try go_simp)
    apply sk hK
    · (try simp only [r4, r5, r6]); rfl
    exact ⟨by have hX := hN.addI 2 h7 o7 (Nat.le_refl _); simpa only [List.set_cons_zero, List.set_cons_succ, updB, updV, blkOf_mk, tup0_mk, partsOf3, Nat.reduceBEq, cond_true, cond_false, hb, d4, d5, d6, n8, n10, r4, r5, r6] using hX, v0, v1, v2, v3, v4, v5, v6, fun _ => ⟨_, _, rfl⟩, ab n8, v9⟩
  refine st 9 rfl (fun b t wx hJ hb hd hcl Kc hK => ?_) ?_
  · obtain ⟨hH, hV⟩ := hJ
    have d3 := so hd 3; have d7 := so hd 7; have r3 := hV.2.2.2.1 d3; have r7 := hV.2.2.2.2.2.2.2.1 d7
    obtain ⟨x_7, c_7, r7⟩ := r7
    have e7 := r7 -- d7
    go_simp
    apply sk hK
    · (try simp only [r3, r7]); rfl
    exact ⟨hH, jD (jD (rp (fun _ => (by show Value.agg _ = Value.agg #[_, t 7]; rw [r7])))) hV⟩
  refine st 10 rfl (fun b t wx hJ hb hd hcl Kc hK => ?_) ?_
  · obtain ⟨hH, hV⟩ := hJ
    have n10 : b 10 = false := nf hb fun h => sc hcl 10 9 (h)
    have hN := hH; (try simp only [hb, n10, cond_true, cond_false] at hN)
    go_simp
    apply sk hK
    · rfl
    exact ⟨by have hX := hN.addB 3 #[.int .i64 0, .slice none 0 0] 125; simpa only [List.set_cons_zero, List.set_cons_succ, updB, updV, blkOf_mk, tup0_mk, partsOf3, Nat.reduceBEq, cond_true, cond_false, hb, n10] using hX, jD (jD (jA (fun _ => fun _ => ⟨_, rfl⟩))) hV⟩
  refine st 11 rfl (fun b t wx hJ hb hd hcl Kc hK => ?_) ?_
  · obtain ⟨hH, hV⟩ := hJ
    have d0 := so hd 0; have d1 := so hd 1; have d2 := so hd 2; have d3 := so hd 3; have d4 := so hd 4; have d5 := so hd 5; have d6 := so hd 6; have d7 := so hd 7; have d8 := so hd 8; have d9 := so hd 9; have r0 := hV.1 d0; have r1 := hV.2.1 d1; have r2 := hV.2.2.1 d2; have r3 := hV.2.2.2.1 d3; have r4 := hV.2.2.2.2.1 d4; have r5 := hV.2.2.2.2.2.1 d5; have r6 := hV.2.2.2.2.2.2.1 d6; have r7 := hV.2.2.2.2.2.2.2.1 d7; have r8 := hV.2.2.2.2.2.2.2.2.1 d8; have r9 := hV.2.2.2.2.2.2.2.2.2 d9
    obtain ⟨x_7, c_7, r7⟩ := r7
    obtain ⟨q_9, r9⟩ := r9
    have hN := hH; (try simp only [hb, d0, d1, d2, d3, d4, d5, d6, d7, d8, d9, cond_true, cond_false] at hN)
    rw [r7] at r8 -- d7 d8
    simp only [r9, r8, blkOf_mk] at hN
    have B := hN.blk (k := 3) rfl
    have f0 := B.free 0; have f1 := B.free 1; have z0 := B.cell (j := 0) rfl; have z1 := B.cell (j := 1) rfl; have lB := B.lt
    go_simp
    refine hK.out _ undef _ ?_ ?_; rotate_left 1
    · (try simp only [r0, r1, r2, r3, r4, r5, r6, r7, r8, r9]); rfl
    exact ⟨by have hX := hN.setB2 (k := 3) rfl (.int .i64 nx) (.slice x_7 RL.length c_7); simpa only [List.set_cons_zero, List.set_cons_succ, updB, updV, blkOf_mk, tup0_mk, partsOf3, Nat.reduceBEq, cond_true, cond_false, hb, d0, d1, d2, d3, d4, d5, d6, d7, d8, d9, r0, r1, r2, r3, r4, r5, r6, r7, r8, r9] using hX, hV⟩
  exact AllSteps.nil
 intro b t wb hJ hall
 obtain ⟨hHb, v0, v1, v2, v3, v4, v5, v6, v7, v8, v9⟩ := hJ
 have a0 := hall 0 (by decide); have a1 := hall 1 (by decide); have a2 := hall 2 (by decide); have a3 := hall 3 (by decide); have a4 := hall 4 (by decide); have a5 := hall 5 (by decide); have a6 := hall 6 (by decide); have a7 := hall 7 (by decide); have a8 := hall 8 (by decide); have a9 := hall 9 (by decide); have a10 := hall 10 (by decide)
 (try simp only [a0, a1, a2, a3, a4, a5, a6, a7, a8, a9, a10, cond_true] at hHb)
 replace v0 := v0 a0; replace v1 := v1 a1; replace v2 := v2 a2; replace v3 := v3 a3; replace v4 := v4 a4; replace v5 := v5 a5; replace v6 := v6 a6; replace v7 := v7 a7; replace v8 := v8 a8; replace v9 := v9 a9
 clear hall a0 a1 a2 a3 a4 a5 a6 a7 a8 a9 a10
 generalize t 9 = x9 at hHb v9 ⊢; generalize t 8 = x8 at hHb v8 ⊢; generalize t 7 = x7 at hHb v7 v8 ⊢; generalize t 6 = x6 at hHb v6 ⊢; generalize t 5 = x5 at hHb v5 ⊢; generalize t 4 = x4 at hHb v4 ⊢; generalize t 3 = x3 at hHb v3 ⊢; generalize t 2 = x2 at hHb v2 ⊢; generalize t 1 = x1 at hHb v1 ⊢; generalize t 0 = x0 at hHb v0 ⊢; subst v0; subst v1; subst v2; subst v3; subst v4; subst v5; subst v6
 obtain ⟨xb7, cb7, rfl⟩ := v7
 subst v8
 obtain ⟨qb9, rfl⟩ := v9
 simp only [blkOf_mk, tup0_mk, partsOf3] at hHb
 clear b
 replace hH := hHb; clear hHb
 replace hH : Held w wb [aB (w.heap.size) 66 [.int .i64 0, .int .i64 0], aB qa17 66 [.int .i64 na, .int .i64 nb], aI (.slice xb7 RL.length cb7) RL, aB qb9 125 [.int .i64 nx, .slice xb7 RL.length cb7]] := hH
 obtain ⟨wx0, rfl⟩ : ∃ q, q = wb := ⟨wb, rfl⟩
 replace hH := hH.nilR 125 2
 replace hH : Held w wx0 [aB (w.heap.size) 66 [.int .i64 0, .int .i64 0], aB qa17 66 [.int .i64 na, .int .i64 nb], aI (.slice xb7 RL.length cb7) RL, aB qb9 125 [.int .i64 nx, .slice xb7 RL.length cb7], aR 125 2 (.slice none 0 0) 0 []] := hH
 have q0_0 := hH.cl 0 0 rfl rfl; have q0_1 := hH.cl 0 1 rfl rfl; have l0_ := hH.bl 0 rfl; have q1_0 := hH.cl 1 0 rfl rfl; have q1_1 := hH.cl 1 1 rfl rfl; have l1_ := hH.bl 1 rfl; have q3_0 := hH.cl 3 0 rfl rfl; have q3_1 := hH.cl 3 1 rfl rfl; have l3_ := hH.bl 3 rfl; have c_k100 := hH.ext.cell k100; have c_k101 := hH.ext.cell k101; have c_k102 := hH.ext.cell k102; have c_hq0a := hH.ext.cell hq0a; have c_hq1a := hH.ext.cell hq1a; have c_hq0b := hH.ext.cell hq0b; have c_hq1b := hH.ext.cell hq1b
 have c_kst := Nat.lt_of_lt_of_le kst hH.ext.size
 go_wp2_with fail
 clear q0_0 q0_1 l0_ q1_0 q1_1 l1_ q3_0 q3_1 l3_ c_k100 c_k101 c_k102 c_hq0a c_hq1a c_hq0b c_hq1b c_kst
 obtain ⟨wa, rfl⟩ : ∃ q, q = wx0 := ⟨wx0, rfl⟩
 go_loopw [9, 43] (fun vl i wr => ∃ (q : Nat) (al : Option Addr) (cl : Nat), q ≤ m ∧ i = .int .i64 (q : Int) ∧ vl = .slice al (DG q).length cl ∧ Held w wr [aB (w.heap.size) 66 [.int .i64 0, .int .i64 0], aB qa17 66 [.int .i64 na, .int .i64 nb], aI (.slice xb7 RL.length cb7) RL, aB qb9 125 [.int .i64 nx, .slice xb7 RL.length cb7], aR 125 2 (.slice al (DG q).length cl) (DG q).length ((DG q).flatMap cells2)]) (fun vl i wr => m - (RowKit.intOf i).toNat)
 case atStart => exact ⟨0, none, 0, Nat.zero_le _, rfl, by rw [HD0.out]; rfl, by rw [HD0.out]; exact hH⟩
 clear hH
 obtain ⟨q, al, cl, hq, rfl, rfl, hH⟩ := hrel
 have hdl := HDL.out q
 obtain ⟨wq, rfl⟩ : ∃ q, q = wr := ⟨wr, rfl⟩
 by_cases hlt : q < m
 ·
  obtain ⟨bL', oL', c, l, hV, hcj, hlj, hq0, hq1, hI⟩ := hLv.get (i := q) (by rw [HM.out]; exact hlt)
  cases hV
  obtain ⟨n, u⟩ := c
  simp only at hq0 hq1 hI
  obtain ⟨ea, ec, rfl, _, _⟩ := hI.val
  rw [Nat.mul_comm 2 q] at hq0 hq1
  rw [← Nat.add_assoc] at hq1
  have HC := Lib.hid hcj; have HL := Lib.hid hlj; clear hcj hlj
  have q0_0 := hH.cl 0 0 rfl rfl; have q0_1 := hH.cl 0 1 rfl rfl; have l0_ := hH.bl 0 rfl; have q1_0 := hH.cl 1 0 rfl rfl; have q1_1 := hH.cl 1 1 rfl rfl; have l1_ := hH.bl 1 rfl; have q3_0 := hH.cl 3 0 rfl rfl; have q3_1 := hH.cl 3 1 rfl rfl; have l3_ := hH.bl 3 rfl; have c_k100 := hH.ext.cell k100; have c_k101 := hH.ext.cell k101; have c_k102 := hH.ext.cell k102; have c_hq0a := hH.ext.cell hq0a; have c_hq1a := hH.ext.cell hq1a; have c_hq0b := hH.ext.cell hq0b; have c_hq1b := hH.ext.cell hq1b; have c_hq0 := hH.ext.cell hq0; have c_hq1 := hH.ext.cell hq1
  have c_kst := Nat.lt_of_lt_of_le kst hH.ext.size
  go_upto_region 7 with fail
  clear q0_0 q0_1 l0_ q1_0 q1_1 l1_ q3_0 q3_1 l3_ c_k100 c_k101 c_k102 c_hq0a c_hq1a c_hq0b c_hq1b c_hq0 c_hq1 c_kst
  obtain ⟨hB, hsz⟩ := hH.laid #[.int .i64 n, .slice ea l.length ec] 125
  generalize wq.alloc (.cells #[.int .i64 n, .slice ea l.length ec] 125) = wn2 at hB hsz ⊢
  replace hH : Held w wn2 [aB (w.heap.size) 66 [.int .i64 0, .int .i64 0], aB qa17 66 [.int .i64 na, .int .i64 nb], aI (.slice xb7 RL.length cb7) RL, aB qb9 125 [.int .i64 nx, .slice xb7 RL.length cb7], aR 125 2 (.slice al (DG q).length cl) (DG q).length ((DG q).flatMap cells2), aB (wq.heap.size) 125 [.int .i64 n, .slice ea l.length ec]] := hB
  have HSZwn2 := Lib.hid (show wn2.heap.size = wq.heap.size + 1 by rw [hsz]); clear hB hsz
  by_cases hqi : (q : Int) = (i : Int)
  ·
   have HE1 := Lib.hid (HDN.out q (.inl (by omega)))
   have q0_0 := hH.cl 0 0 rfl rfl; have q0_1 := hH.cl 0 1 rfl rfl; have l0_ := hH.bl 0 rfl; have q1_0 := hH.cl 1 0 rfl rfl; have q1_1 := hH.cl 1 1 rfl rfl; have l1_ := hH.bl 1 rfl; have q3_0 := hH.cl 3 0 rfl rfl; have q3_1 := hH.cl 3 1 rfl rfl; have l3_ := hH.bl 3 rfl; have q5_0 := hH.cl 5 0 rfl rfl; have q5_1 := hH.cl 5 1 rfl rfl; have l5_ := hH.bl 5 rfl; have c_k100 := hH.ext.cell k100; have c_k101 := hH.ext.cell k101; have c_k102 := hH.ext.cell k102; have c_hq0a := hH.ext.cell hq0a; have c_hq1a := hH.ext.cell hq1a; have c_hq0b := hH.ext.cell hq0b; have c_hq1b := hH.ext.cell hq1b; have c_hq0 := hH.ext.cell hq0; have c_hq1 := hH.ext.cell hq1
   have c_kst := Nat.lt_of_lt_of_le kst hH.ext.size
   go_wp2_with fail
   clear q0_0 q0_1 l0_ q1_0 q1_1 l1_ q3_0 q3_1 l3_ q5_0 q5_1 l5_ c_k100 c_k101 c_k102 c_hq0a c_hq1a c_hq0b c_hq1b c_hq0 c_hq1 c_kst
   go_roundw
   case rel => exact ⟨q + 1, _, _, by omega, by go_num, by rw [HE1.out], by rw [HE1.out]; exact hH.sub (.cons_cons _ (.cons_cons _ (.cons_cons _ (.cons_cons _ (.cons_cons _ (.cons _ .slnil))))))⟩
   case measure => simp [RowKit.intOf]; omega
  have hbi : ((q : Int) != (i : Int)) = true := by simpa using hqi
  by_cases hqj : (q : Int) = (j : Int)
  ·
   have HE1 := Lib.hid (HDN.out q (.inr (by omega)))
   have q0_0 := hH.cl 0 0 rfl rfl; have q0_1 := hH.cl 0 1 rfl rfl; have l0_ := hH.bl 0 rfl; have q1_0 := hH.cl 1 0 rfl rfl; have q1_1 := hH.cl 1 1 rfl rfl; have l1_ := hH.bl 1 rfl; have q3_0 := hH.cl 3 0 rfl rfl; have q3_1 := hH.cl 3 1 rfl rfl; have l3_ := hH.bl 3 rfl; have q5_0 := hH.cl 5 0 rfl rfl; have q5_1 := hH.cl 5 1 rfl rfl; have l5_ := hH.bl 5 rfl; have c_k100 := hH.ext.cell k100; have c_k101 := hH.ext.cell k101; have c_k102 := hH.ext.cell k102; have c_hq0a := hH.ext.cell hq0a; have c_hq1a := hH.ext.cell hq1a; have c_hq0b := hH.ext.cell hq0b; have c_hq1b := hH.ext.cell hq1b; have c_hq0 := hH.ext.cell hq0; have c_hq1 := hH.ext.cell hq1
   have c_kst := Nat.lt_of_lt_of_le kst hH.ext.size
   go_wp2_with fail
   clear q0_0 q0_1 l0_ q1_0 q1_1 l1_ q3_0 q3_1 l3_ q5_0 q5_1 l5_ c_k100 c_k101 c_k102 c_hq0a c_hq1a c_hq0b c_hq1b c_hq0 c_hq1 c_kst
   go_roundw
   case rel => exact ⟨q + 1, _, _, by omega, by go_num, by rw [HE1.out], by rw [HE1.out]; exact hH.sub (.cons_cons _ (.cons_cons _ (.cons_cons _ (.cons_cons _ (.cons_cons _ (.cons _ .slnil))))))⟩
   case measure => simp [RowKit.intOf]; omega
  have hbj : ((q : Int) != (j : Int)) = true := by simpa using hqj
  have hE1 := HDY.out q (by omega) _ HC.out
  have HE1 := Lib.hid (show (DG (q + 1)).length = (DG q).length + 1 by rw [hE1]; simp)
  have HE2 := Lib.hid (show (DG (q + 1)).flatMap cells2 = (DG q).flatMap cells2 ++ [.int .i64 n, .slice ea l.length ec] by rw [hE1, List.flatMap_append]; rfl)
  clear hE1
  have q0_0 := hH.cl 0 0 rfl rfl; have q0_1 := hH.cl 0 1 rfl rfl; have l0_ := hH.bl 0 rfl; have q1_0 := hH.cl 1 0 rfl rfl; have q1_1 := hH.cl 1 1 rfl rfl; have l1_ := hH.bl 1 rfl; have q3_0 := hH.cl 3 0 rfl rfl; have q3_1 := hH.cl 3 1 rfl rfl; have l3_ := hH.bl 3 rfl; have q5_0 := hH.cl 5 0 rfl rfl; have q5_1 := hH.cl 5 1 rfl rfl; have l5_ := hH.bl 5 rfl; have c_k100 := hH.ext.cell k100; have c_k101 := hH.ext.cell k101; have c_k102 := hH.ext.cell k102; have c_hq0a := hH.ext.cell hq0a; have c_hq1a := hH.ext.cell hq1a; have c_hq0b := hH.ext.cell hq0b; have c_hq1b := hH.ext.cell hq1b; have c_hq0 := hH.ext.cell hq0; have c_hq1 := hH.ext.cell hq1
  have c_kst := Nat.lt_of_lt_of_le kst hH.ext.size
  go_wp2_with (at_builtin; refine wpList_app _ rfl _ _ 121 rfl _ _ rfl rfl _ (run_pushR _ (hH.grow ((Ext.refl _).alloc _)) (k := 4) rfl (row_one2 _ _ _ _) rfl rfl (by omega)) ?_; rintro vp wp ⟨hHp, gp, rp⟩; obtain ⟨ap, cp, rfl, _, _⟩ := rp.val)
  go_roundw
  case rel => exact ⟨q + 1, _, _, by omega, by go_num, by rw [HE1.out], by rw [HE1.out, HE2.out]; exact hHp.sub (.cons_cons _ (.cons_cons _ (.cons_cons _ (.cons_cons _ (.cons_cons _ (.cons _ .slnil))))))⟩
  case measure => simp [RowKit.intOf]; omega
 have hqe : q = m := by omega
 subst hqe
 rw [HDE.out] at hH hdl ⊢
 generalize hdr : drop2 cs i j = DR at *
 have HDR := Lib.hid hdr; clear hdr
 have q0_0 := hH.cl 0 0 rfl rfl; have q0_1 := hH.cl 0 1 rfl rfl; have l0_ := hH.bl 0 rfl; have q1_0 := hH.cl 1 0 rfl rfl; have q1_1 := hH.cl 1 1 rfl rfl; have l1_ := hH.bl 1 rfl; have q3_0 := hH.cl 3 0 rfl rfl; have q3_1 := hH.cl 3 1 rfl rfl; have l3_ := hH.bl 3 rfl; have c_k100 := hH.ext.cell k100; have c_k101 := hH.ext.cell k101; have c_k102 := hH.ext.cell k102; have c_hq0a := hH.ext.cell hq0a; have c_hq1a := hH.ext.cell hq1a; have c_hq0b := hH.ext.cell hq0b; have c_hq1b := hH.ext.cell hq1b
 have c_kst := Nat.lt_of_lt_of_le kst hH.ext.size
 go_upto_region 11 with (at_builtin; refine wpList_app _ rfl _ _ 121 rfl _ _ rfl rfl _ (run_pushR _ (hH.grow ((Ext.refl _).alloc _)) (n := DR.length) (k := 4) rfl (row_one2 _ _ _ _) rfl rfl (by omega)) ?_; rintro vp wp ⟨hHp, gp, rp⟩; obtain ⟨ap, cp, hvp, _, _⟩ := rp.val; subst hvp; have yB := hB.ext hHp.ext; have yl := yB.lt; have y1 := (state_100 HAL.out yB).2.1; have y1f := yB.free 101; clear yB)
 have hX : HeldX (some s) w (wp.setCell ⟨s, 101, none⟩ (.slice ap (DR.length + 1) cp)) [aB (w.heap.size) 66 [.int .i64 0, .int .i64 0], aB qa17 66 [.int .i64 na, .int .i64 nb], aI (.slice xb7 RL.length cb7) RL, aB qb9 125 [.int .i64 nx, .slice xb7 RL.length cb7], aR 125 2 (.slice ap (DR.length + 1) cp) (DR.length + 1) (DR.flatMap cells2 ++ [.int .i64 nx, .slice xb7 RL.length cb7])] := (hHp.exempt s).turnX kst (grown_setCell (grown_refl _ _) 101 (.slice ap (DR.length + 1) cp))
 have hB2 : Blk (wp.setCell ⟨s, 101, none⟩ (.slice ap (DR.length + 1) cp)) s 123 (Proofs.YtlgjddgajdjllaaGreat.ints A ++ [.slice aO op.length cO, (.slice ap (DR.length + 1) cp), .int .i64 nx]) := by have h := (hB.ext hHp.ext).set 101 (.slice ap (DR.length + 1) cp); rw [state_set101 HAL.out] at h; exact h
 clear hHp gp rp hH
 generalize wp.setCell ⟨s, 101, none⟩ (.slice ap (DR.length + 1) cp) = wc at hX hB2 ⊢
 have y2 := (state_100 HAL.out hB2).2.2; have y2f := hB2.free 102; have y2l := hB2.lt
 go_upto_region 12 with fail
 clear y2 y2f y2l
 replace hX := hX.turnX kst (grown_setCell (grown_refl wc _) 102 (.int .i64 (nx + 1)))
 replace hB2 : Blk (wc.setCell ⟨s, 102, none⟩ (.int .i64 (nx + 1))) s 123 (Proofs.YtlgjddgajdjllaaGreat.ints A ++ [.slice aO op.length cO, (.slice ap (DR.length + 1) cp), .int .i64 (nx + 1)]) := by have h := hB2.set 102 (.int .i64 (nx + 1)); rw [state_set102 HAL.out] at h; exact h
 generalize wc.setCell ⟨s, 102, none⟩ (.int .i64 (nx + 1)) = wd at hX hB2 ⊢
 have b6 := hX.blk (k := 0) rfl; have b7 := hX.blk (k := 1) rfl
 have z0 := b6.cell (j := 0) rfl; have z1 := b6.cell (j := 1) rfl; have z0f := b6.free 0; have z1f := b6.free 1; have z6l := b6.lt
 have z2 := b7.cell (j := 0) rfl; have z3 := b7.cell (j := 1) rfl
 have hb6 : w.heap.size ≠ s := by omega
 have hF := hX.setB2 (k := 0) rfl (.int .i64 na) (.int .i64 nb)
 have hB3 := (hB2.other (p := ⟨w.heap.size, 0, none⟩) hb6 (.int .i64 na)).other (p := ⟨w.heap.size, 1, none⟩) hb6 (.int .i64 nb)
 have HF := Lib.hid hF; have HB3 := Lib.hid hB3
 clear hX hB2 b6 b7 hF hB3
 go_wp2_with fail
 refine bodyPost_ret (v := .agg #[.int .i64 na, .int .i64 nb]) (by simp [results, Tryz.results79, go_sem, *]) rfl ?_
 have hF := HF.out
 refine ⟨na, nb, (.slice xb7 RL.length cb7), rfl, by rw [HCa.out]; rfl, by rw [HCb.out]; rfl, hF.grown, ?_⟩
 (try rw [← HDR.out])
 have hstep := hLv.step hF.grown i j (m := DR.length + 1) (by rw [HDR.out]) (by rw [HDR.out]; exact ownsRow_row (hF.get (k := 4) rfl)) (fun e => hF.not_fp (k := 4) rfl kst (by simp [aR]; first | exact e | (rw [HDR.out] at e; exact e))) (hF.ints (k := 2) rfl) (fun e => hF.not_fp (k := 2) rfl kst (by simp [aI]; exact e))
 refine ⟨_, _, HB3.out, hov.keep hF.grown hovs, hovs, hstep, hovz, hLvz.stepz i j hstep (fun e => hF.not_fp (k := 4) rfl hzl (by simp [aR]; first | exact e | (rw [HDR.out] at e; exact e))) (fun e => hF.not_fp (k := 2) rfl hzl (by simp [aI]; exact e))⟩
theorem contract_any {s : Nat} {A op : List Int} {cs : List (Int × Value)} {ls : List (List Int)} {nx : Int} (hal : A.length = 100) (w : World) (hS : OrdS w s A op cs ls nx) (hlen : ls.length ≤ 1000) (hrk : ∀ l ∈ ls, l.length ≤ 500) (i j : Nat) (hi : i < ls.length) (hj : j < ls.length) (hnx0 : 0 ≤ nx) (hnx1 : nx ≤ 2000) :
    Calls Tryz.prog 79 #[.pointer (some ⟨s, 0, none⟩), .int .i64 (i : Int), .int .i64 (j : Int)] w fun e w' => ∃ a b u, e = .returned (.agg #[.int .i64 a, .int .i64 b]) ∧ (cs[i]?.map (·.1)) = some a ∧ (cs[j]?.map (·.1)) = some b ∧ w.grownBy w' (some s) ∧ OrdS w' s A op (drop2 cs i j ++ [(nx, u)]) (drop2 ls i j ++ [resL op ls i j]) (nx + 1) :=
  (contract_anyA hal w (OrdA.ofS hS) hlen hrk i j hi hj hnx0 hnx1 hS.lt).mono fun e w' ⟨a, b, u, h1, h2, h3, h4, h5⟩ => ⟨a, b, u, h1, h2, h3, h4, h5.toS⟩
end Go.Proofs.YtlgjddgajdjllaaGreat
