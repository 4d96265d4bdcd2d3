/- absorbOne of the program. -/
import Derived.Test.YtpegckmagiaggaaGMrgW
set_option linter.unusedSimpArgs false
set_option linter.unusedVariables false
namespace Go.Proofs.Ytpegckmagiaggaa
open Go.RowKit
structure AbsO {k p n : Int} (hr : ringOk k p n = true) (dm : Int → Int) (ts : List (NT k p n)) (op : List Int) (w w' : World) (e : Ending) : Prop where
  has : (e = .returned (.tuple #[.agg #[.int .i64 0, .int .i64 0, .int .i64 0, .slice none 0 0, .slice none 0 0], .bool false]) ∧ NoPair ts ∧ Ext w w') ∨
    (∃ (i j : Nat) (tv ov : Value) (cs : List (Value × Value × Value)), i < j ∧ j < ts.length ∧ ¬ NoPair ts ∧ e = .returned (.tuple #[.agg #[.int .i64 k, .int .i64 p, .int .i64 n, tv, ov], .bool true]) ∧ Held w w' [aTs tv cs ((mrgL hr dm ts op i j).map (tenOf dm)), aI ov op])
section
variable {k p n : Int} {ts : List (NT k p n)} {i j : Nat} {a b : NT k p n}
theorem NoPairTo.next (h : NoPairTo ts i j) (ha : ts[i]? = some a) (hb : ts[j]? = some b) (h1 : (a.1.all fun x => hasL b.1 x) = false) (h2 : (b.1.all fun x => hasL a.1 x) = false) : NoPairTo ts i (j + 1) := fun q r c d hqr hlt hc hd => by
  by_cases e : q = i ∧ r = j
  · obtain ⟨rfl, rfl⟩ := e
    rw [ha] at hc; rw [hb] at hd
    cases hc; cases hd
    refine ⟨fun h => ?_, fun h => ?_⟩
    · rw [allIn_iff.2 h] at h1; cases h1
    · rw [allIn_iff.2 h] at h2; cases h2
  · exact h q r c d hqr (by omega) hc hd
theorem NoPairTo.row (h : NoPairTo ts i j) (hj : ts.length ≤ j) : NoPairTo ts (i + 1) 0 := fun q r c d hqr hlt hc hd => by
  have := (List.getElem?_eq_some_iff.1 hd).1
  exact h q r c d hqr (by omega) hc hd
theorem NoPairTo.all (h : NoPairTo ts i 0) (hi : ts.length ≤ i) : NoPair ts := fun q r c d hqr hlt hc hd => by
  have := (List.getElem?_eq_some_iff.1 hc).1
  exact h q r c d hqr (by omega) hc hd
theorem noPair_no (hij : i < j) (ha : ts[i]? = some a) (hb : ts[j]? = some b) (h : (a.1.all fun x => hasL b.1 x) = true ∨ (b.1.all fun x => hasL a.1 x) = true) : ¬ NoPair ts := fun hn => by
  have h2 := hn i j a b hij (.inl (List.getElem?_eq_some_iff.1 ha).1) ha hb
  rcases h with h | h
  · exact h2.1 (allIn_iff.1 h)
  · exact h2.2 (allIn_iff.1 h)
end
set_option maxRecDepth 100000 in
set_option maxHeartbeats 8000000 in
theorem absorbOne_any {k p n : Int} (hr : ringOk k p n = true) {dm : Int → Int} {U : List Int} {ts : List (NT k p n)} {op : List Int} (hN : IsN k p n dm U ts op) (tv ov : Value) (w : World) (hT : TensS w tv (ts.map (tenOf dm))) (hO : IntS w ov op) :
 Calls Try.prog 144 #[.agg #[.int .i64 k, .int .i64 p, .int .i64 n, tv, ov]] w fun e w' => AbsO hr dm ts op w w' e := by
 have hT0 := hT
 have hO0 := hO
 obtain ⟨m, hm⟩ : ∃ m, ts.length = m := ⟨_, rfl⟩
 obtain ⟨aV, cV, rfl, hcT1, hcT2⟩ := hT.val
 obtain ⟨aO, cO, rfl, hcO1, hcO2⟩ := hO.val
 rw [List.length_map, hm] at hT hT0 hcT1
 rw [List.length_map, hm]
 have hm12 : m ≤ 12 := by rw [← hm]; exact hN.len
 have hop12 : op.length ≤ 12 := hN.rank
 have HM := Lib.hid hm; have HR := Lib.hid hr; have HN := Lib.hid hN; have HD3 := Lib.hid hN.dims3; clear hm  hN
 have hTl : Hid ((ts.map (tenOf dm)).length = m) := Lib.hid (by rw [List.length_map]; exact HM.out)
 go_enter Try.func144, Try.ntmps144
 go_upto_region 1 with fail
 have hH : Held w w [] := Held.new (Ext.refl w) 0
 have hB : Held w (w.alloc (.cells #[.int .i64 k, .int .i64 p, .int .i64 n, .slice aV m cV, .slice aO op.length cO] 29)) [aB (w.heap.size) 29 [.int .i64 k, .int .i64 p, .int .i64 n, .slice aV m cV, .slice aO op.length cO]] := by
  have h := (hH.mores 1).addB 0 #[.int .i64 k, .int .i64 p, .int .i64 n, .slice aV m cV, .slice aO op.length cO] 29
  exact h
 have hsz : (w.alloc (.cells #[.int .i64 k, .int .i64 p, .int .i64 n, .slice aV m cV, .slice aO op.length cO] 29)).heap.size = w.heap.size + 1 := by simp
 generalize w.alloc (.cells #[.int .i64 k, .int .i64 p, .int .i64 n, .slice aV m cV, .slice aO op.length cO] 29) = wn1 at hB hsz ⊢
 replace hH := hB; have HSZwn1 := Lib.hid hsz; clear hB hsz
 have hB : Held w (wn1.alloc (.cells #[.int .i64 0, .int .i64 0, .int .i64 0, .slice none 0 0, .slice none 0 0] 29)) [aB (w.heap.size) 29 [.int .i64 k, .int .i64 p, .int .i64 n, .slice aV m cV, .slice aO op.length cO], aB (w.heap.size + 1) 29 [.int .i64 0, .int .i64 0, .int .i64 0, .slice none 0 0, .slice none 0 0]] := by
  have h := (hH.mores 1).addB 1 #[.int .i64 0, .int .i64 0, .int .i64 0, .slice none 0 0, .slice none 0 0] 29
  rw [HSZwn1.out] at h
  exact h
 have hsz : (wn1.alloc (.cells #[.int .i64 0, .int .i64 0, .int .i64 0, .slice none 0 0, .slice none 0 0] 29)).heap.size = w.heap.size + 1 + 1 := by rw [← HSZwn1.out]; simp
 generalize wn1.alloc (.cells #[.int .i64 0, .int .i64 0, .int .i64 0, .slice none 0 0, .slice none 0 0] 29) = wn2 at hB hsz ⊢
 replace hH := hB; have HSZwn2 := Lib.hid hsz; clear hB hsz
 obtain ⟨q0_0, q0_1, q0_2, q0_3, q0_4, l0_⟩ := hH.c5 0 rfl; obtain ⟨q1_0, q1_1, q1_2, q1_3, q1_4, l1_⟩ := hH.c5 1 rfl
 go_wp2_with fail
 clear q0_0 q0_1 q0_2 q0_3 q0_4 l0_ q1_0 q1_1 q1_2 q1_3 q1_4 l1_
 go_loopw [13] (fun iv wr => ∃ (i : Nat), i ≤ m ∧ iv = .int .i64 (i : Int) ∧ Hid (NoPairTo ts i 0) ∧ Held w wr [aB (w.heap.size) 29 [.int .i64 k, .int .i64 p, .int .i64 n, .slice aV m cV, .slice aO op.length cO], aB (w.heap.size + 1) 29 [.int .i64 0, .int .i64 0, .int .i64 0, .slice none 0 0, .slice none 0 0]]) (fun iv wr => m - (RowKit.intOf iv).toNat)
 case atStart => exact ⟨0, Nat.zero_le _, rfl, Lib.hid (fun q r a b h1 h2 => (by omega)), hH⟩
 case round =>
  clear hH
  obtain ⟨i, hi, rfl, HNP, hH⟩ := hrel
  obtain ⟨wq, rfl⟩ : ∃ q, q = wr := ⟨wr, rfl⟩
  by_cases hlt : i < m
  ·
   obtain ⟨q0_0, q0_1, q0_2, q0_3, q0_4, l0_⟩ := hH.c5 0 rfl; obtain ⟨q1_0, q1_1, q1_2, q1_3, q1_4, l1_⟩ := hH.c5 1 rfl
   go_wp2_with fail
   clear q0_0 q0_1 q0_2 q0_3 q0_4 l0_ q1_0 q1_1 q1_2 q1_3 q1_4 l1_
   go_loopw [5] (fun jv wr => ∃ (j : Nat), i + 1 ≤ j ∧ j ≤ m ∧ jv = .int .i64 (j : Int) ∧ Hid (NoPairTo ts i j) ∧ Held w wr [aB (w.heap.size) 29 [.int .i64 k, .int .i64 p, .int .i64 n, .slice aV m cV, .slice aO op.length cO], aB (w.heap.size + 1) 29 [.int .i64 0, .int .i64 0, .int .i64 0, .slice none 0 0, .slice none 0 0]]) (fun jv wr => m - (RowKit.intOf jv).toNat)
   case atStart => exact ⟨i + 1, Nat.le_refl _, by omega, by first | rfl | go_num, Lib.hid (fun q r a b h1 h2 => HNP.out q r a b h1 (by omega)), hH⟩
   case round =>
    clear hH
    obtain ⟨j, hij, hj, rfl, HNJ, hH⟩ := hrel
    obtain ⟨wo, rfl⟩ : ∃ q, q = wr := ⟨wr, rfl⟩
    by_cases hlt2 : j < m
    ·
     obtain ⟨bT, oT, u1, u2, u3, t3, hV, hu0a, hu1a, hu2a, ht3, hTua⟩ := hT.get (i := i) (by rw [hTl.out]; exact hlt)
     subst hV
     obtain ⟨t, htj, rfl⟩ : ∃ t, ts[i]? = some t ∧ tenOf dm t = t3 := by rw [List.getElem?_map] at ht3; exact Option.map_eq_some_iff.1 ht3
     have HTJa := Lib.hid htj; have HTIa := Lib.hid (HN.out.ten t (List.mem_of_getElem? htj)); clear ht3 htj
     obtain ⟨tla, xsa⟩ := t
     obtain ⟨e1a, m1, f1a, e2a, m2, f2a, e3a, m3a, f3a, hvv⟩ := hTua.shape
     simp at hvv
     obtain ⟨rfl, rfl, rfl⟩ := hvv
     rw [Nat.mul_comm 3 i] at hu0a hu1a hu2a
     obtain ⟨_, _, _, hvv, hTLa, hTDa, hTXa⟩ := hTua.val
     simp at hvv
     obtain ⟨rfl, rfl, rfl⟩ := hvv
     simp only [tenOf] at hTua hTLa hTDa hTXa HTIa
     obtain ⟨_, _, hvv, _, _⟩ := hTLa.val
     simp at hvv
     obtain ⟨rfl, rfl, rfl⟩ := hvv
     obtain ⟨_, _, hvv, _, _⟩ := hTDa.val
     simp at hvv
     obtain ⟨rfl, rfl, rfl⟩ := hvv
     obtain ⟨_, _, u1, u2, u3, t3, hV, hu0b, hu1b, hu2b, ht3, hTub⟩ := hT.get (i := j) (by rw [hTl.out]; exact hlt2)
     cases hV
     obtain ⟨t, htj, rfl⟩ : ∃ t, ts[j]? = some t ∧ tenOf dm t = t3 := by rw [List.getElem?_map] at ht3; exact Option.map_eq_some_iff.1 ht3
     have HTJb := Lib.hid htj; have HTIb := Lib.hid (HN.out.ten t (List.mem_of_getElem? htj)); clear ht3 htj
     obtain ⟨tlb, xsb⟩ := t
     obtain ⟨e1b, m1, f1b, e2b, m2, f2b, e3b, m3b, f3b, hvv⟩ := hTub.shape
     simp at hvv
     obtain ⟨rfl, rfl, rfl⟩ := hvv
     rw [Nat.mul_comm 3 j] at hu0b hu1b hu2b
     obtain ⟨_, _, _, hvv, hTLb, hTDb, hTXb⟩ := hTub.val
     simp at hvv
     obtain ⟨rfl, rfl, rfl⟩ := hvv
     simp only [tenOf] at hTub hTLb hTDb hTXb HTIb
     obtain ⟨_, _, hvv, _, _⟩ := hTLb.val
     simp at hvv
     obtain ⟨rfl, rfl, rfl⟩ := hvv
     obtain ⟨_, _, hvv, _, _⟩ := hTDb.val
     simp at hvv
     obtain ⟨rfl, rfl, rfl⟩ := hvv
     obtain ⟨q0_0, q0_1, q0_2, q0_3, q0_4, l0_⟩ := hH.c5 0 rfl; obtain ⟨q1_0, q1_1, q1_2, q1_3, q1_4, l1_⟩ := hH.c5 1 rfl
     go_upto_region 7 with fail
     clear q0_0 q0_1 q0_2 q0_3 q0_4 l0_ q1_0 q1_1 q1_2 q1_3 q1_4 l1_
     refine wp_region_steps ?Fb (fun b t wx => Held w wx [aB (w.heap.size) 29 [.int .i64 k, .int .i64 p, .int .i64 n, .slice (some ⟨bT, oT, none⟩) m cV, .slice aO op.length cO], aB (w.heap.size + 1) 29 [.int .i64 0, .int .i64 0, .int .i64 0, .slice none 0 0, .slice none 0 0]] ∧ (b 0 = true → t 0 = .pointer (some ⟨w.heap.size, 3, none⟩)) ∧ (b 1 = true → t 1 = .slice (some ⟨bT, oT, none⟩) m cV) ∧ (b 2 = true → t 2 = .int .i64 (i : Int)) ∧ (b 3 = true → t 3 = .pointer (some ⟨bT, oT + i * 3, none⟩)) ∧ (b 4 = true → t 4 = .pointer (some ⟨bT, oT + i * 3, none⟩)) ∧ (b 5 = true → t 5 = .slice e1a tla.length f1a) ∧ (b 6 = true → t 6 = .pointer (some ⟨w.heap.size, 3, none⟩)) ∧ (b 7 = true → t 7 = .slice (some ⟨bT, oT, none⟩) m cV) ∧ (b 8 = true → t 8 = .int .i64 (j : Int)) ∧ (b 9 = true → t 9 = .pointer (some ⟨bT, oT + j * 3, none⟩)) ∧ (b 10 = true → t 10 = .pointer (some ⟨bT, oT + j * 3, none⟩)) ∧ (b 11 = true → t 11 = .slice e1b tlb.length f1b) ∧ (b 12 = true → t 12 = t 5) ∧ (b 13 = true → t 13 = t 11)) ?hFb (by kernel_rfl) (by kernel_rfl) ?hJb ?hSb ?hEb
     (case hFb => intro t; simp only [putAll, Act.put, List.setIfInBounds_toArray, List.set_cons_zero, List.set_cons_succ, Nat.reduceAdd, Nat.zero_add]; exact rfl)
     case hJb => exact ⟨hH.grow ((Ext.refl _).drew), nof, nof, nof, nof, nof, nof, nof, nof, nof, nof, nof, nof, nof, nof⟩
     case hSb => as_aux_lemma =>
       refine AllSteps.cons (j := 1) rfl (fun b t wx hJ hb hd hcl Kc hK => ?_) ?_
       · obtain ⟨hH, v0, v1, v2, v3, v4, v5, v6, v7, v8, v9, v10, v11, v12, v13⟩ := hJ
         have c_hu0a := hH.ext.cell hu0a; have c_hu0b := hH.ext.cell hu0b
         go_simp
         refine hK.out _ ?_ _ ?_ ?_; rotate_left 2
         · rfl
         exact ⟨hH, fun _ => rfl, v1, v2, v3, v4, v5, v6, v7, v8, v9, v10, v11, v12, v13⟩
       refine AllSteps.cons (j := 2) rfl (fun b t wx hJ hb hd hcl Kc hK => ?_) ?_
       · obtain ⟨hH, v0, v1, v2, v3, v4, v5, v6, v7, v8, v9, v10, v11, v12, v13⟩ := hJ
         have d0 := hd.out 0 (by kernel_rfl); have r0 := v0 d0; have c_hu0a := hH.ext.cell hu0a; have c_hu0b := hH.ext.cell hu0b; have q0_3 := hH.cl 0 3 rfl rfl
         go_simp
         refine hK.out _ ?_ _ ?_ ?_; rotate_left 2
         · (try simp only [r0]); rfl
         exact ⟨hH, v0, fun _ => rfl, v2, v3, v4, v5, v6, v7, v8, v9, v10, v11, v12, v13⟩
       refine AllSteps.cons (j := 3) rfl (fun b t wx hJ hb hd hcl Kc hK => ?_) ?_
       · obtain ⟨hH, v0, v1, v2, v3, v4, v5, v6, v7, v8, v9, v10, v11, v12, v13⟩ := hJ
         have c_hu0a := hH.ext.cell hu0a; have c_hu0b := hH.ext.cell hu0b
         go_simp
         refine hK.out _ ?_ _ ?_ ?_; rotate_left 2
         · rfl
         exact ⟨hH, v0, v1, fun _ => rfl, v3, v4, v5, v6, v7, v8, v9, v10, v11, v12, v13⟩
       refine AllSteps.cons (j := 4) rfl (fun b t wx hJ hb hd hcl Kc hK => ?_) ?_
       · obtain ⟨hH, v0, v1, v2, v3, v4, v5, v6, v7, v8, v9, v10, v11, v12, v13⟩ := hJ
         have d1 := hd.out 1 (by kernel_rfl); have d2 := hd.out 2 (by kernel_rfl); have r1 := v1 d1; have r2 := v2 d2; have c_hu0a := hH.ext.cell hu0a; have c_hu0b := hH.ext.cell hu0b
         go_simp
         refine hK.out _ ?_ _ ?_ ?_; rotate_left 2
         · (try simp only [r1, r2]); rfl
         exact ⟨hH, v0, v1, v2, fun _ => rfl, v4, v5, v6, v7, v8, v9, v10, v11, v12, v13⟩
       refine AllSteps.cons (j := 5) rfl (fun b t wx hJ hb hd hcl Kc hK => ?_) ?_
       · obtain ⟨hH, v0, v1, v2, v3, v4, v5, v6, v7, v8, v9, v10, v11, v12, v13⟩ := hJ
         have d3 := hd.out 3 (by kernel_rfl); have r3 := v3 d3; have c_hu0a := hH.ext.cell hu0a; have c_hu0b := hH.ext.cell hu0b
         go_simp
         refine hK.out _ ?_ _ ?_ ?_; rotate_left 2
         · (try simp only [r3]); rfl
         exact ⟨hH, v0, v1, v2, v3, fun _ => rfl, v5, v6, v7, v8, v9, v10, v11, v12, v13⟩
       refine AllSteps.cons (j := 6) rfl (fun b t wx hJ hb hd hcl Kc hK => ?_) ?_
       · obtain ⟨hH, v0, v1, v2, v3, v4, v5, v6, v7, v8, v9, v10, v11, v12, v13⟩ := hJ
         have d4 := hd.out 4 (by kernel_rfl)
         have n12 : b 12 = false := Bool.eq_false_iff.2 fun h => absurd (hcl.out 12 5 (by kernel_rfl) (h)) (by rw [hb]; exact Bool.false_ne_true)
         have r4 := v4 d4; have c_hu0a := hH.ext.cell hu0a; have c_hu0b := hH.ext.cell hu0b
         go_simp
         refine hK.out _ ?_ _ ?_ ?_; rotate_left 2
         · (try simp only [r4]); rfl
         exact ⟨hH, v0, v1, v2, v3, v4, fun _ => rfl, v6, v7, v8, v9, v10, v11, fun h => absurd (show b 12 = true from h) (by rw [n12]; exact Bool.false_ne_true), v13⟩
       refine AllSteps.cons (j := 7) rfl (fun b t wx hJ hb hd hcl Kc hK => ?_) ?_
       · obtain ⟨hH, v0, v1, v2, v3, v4, v5, v6, v7, v8, v9, v10, v11, v12, v13⟩ := hJ
         have c_hu0a := hH.ext.cell hu0a; have c_hu0b := hH.ext.cell hu0b
         go_simp
         refine hK.out _ ?_ _ ?_ ?_; rotate_left 2
         · rfl
         exact ⟨hH, v0, v1, v2, v3, v4, v5, fun _ => rfl, v7, v8, v9, v10, v11, v12, v13⟩
       refine AllSteps.cons (j := 8) rfl (fun b t wx hJ hb hd hcl Kc hK => ?_) ?_
       · obtain ⟨hH, v0, v1, v2, v3, v4, v5, v6, v7, v8, v9, v10, v11, v12, v13⟩ := hJ
         have d6 := hd.out 6 (by kernel_rfl); have r6 := v6 d6; have c_hu0a := hH.ext.cell hu0a; have c_hu0b := hH.ext.cell hu0b; have q0_3 := hH.cl 0 3 rfl rfl
         go_simp
         refine hK.out _ ?_ _ ?_ ?_; rotate_left 2
         · (try simp only [r6]); rfl
         exact ⟨hH, v0, v1, v2, v3, v4, v5, v6, fun _ => rfl, v8, v9, v10, v11, v12, v13⟩
       refine AllSteps.cons (j := 9) rfl (fun b t wx hJ hb hd hcl Kc hK => ?_) ?_
       · obtain ⟨hH, v0, v1, v2, v3, v4, v5, v6, v7, v8, v9, v10, v11, v12, v13⟩ := hJ
         have c_hu0a := hH.ext.cell hu0a; have c_hu0b := hH.ext.cell hu0b
         go_simp
         refine hK.out _ ?_ _ ?_ ?_; rotate_left 2
         · rfl
         exact ⟨hH, v0, v1, v2, v3, v4, v5, v6, v7, fun _ => rfl, v9, v10, v11, v12, v13⟩
       refine AllSteps.cons (j := 10) rfl (fun b t wx hJ hb hd hcl Kc hK => ?_) ?_
       · obtain ⟨hH, v0, v1, v2, v3, v4, v5, v6, v7, v8, v9, v10, v11, v12, v13⟩ := hJ
         have d7 := hd.out 7 (by kernel_rfl); have d8 := hd.out 8 (by kernel_rfl); have r7 := v7 d7; have r8 := v8 d8; have c_hu0a := hH.ext.cell hu0a; have c_hu0b := hH.ext.cell hu0b
         go_simp
         refine hK.out _ ?_ _ ?_ ?_; rotate_left 2
         · (try simp only [r7, r8]); rfl
         exact ⟨hH, v0, v1, v2, v3, v4, v5, v6, v7, v8, fun _ => rfl, v10, v11, v12, v13⟩
       refine AllSteps.cons (j := 11) rfl (fun b t wx hJ hb hd hcl Kc hK => ?_) ?_
       · obtain ⟨hH, v0, v1, v2, v3, v4, v5, v6, v7, v8, v9, v10, v11, v12, v13⟩ := hJ
         have d9 := hd.out 9 (by kernel_rfl); have r9 := v9 d9; have c_hu0a := hH.ext.cell hu0a; have c_hu0b := hH.ext.cell hu0b
         go_simp
         refine hK.out _ ?_ _ ?_ ?_; rotate_left 2
         · (try simp only [r9]); rfl
         exact ⟨hH, v0, v1, v2, v3, v4, v5, v6, v7, v8, v9, fun _ => rfl, v11, v12, v13⟩
       refine AllSteps.cons (j := 12) rfl (fun b t wx hJ hb hd hcl Kc hK => ?_) ?_
       · obtain ⟨hH, v0, v1, v2, v3, v4, v5, v6, v7, v8, v9, v10, v11, v12, v13⟩ := hJ
         have d10 := hd.out 10 (by kernel_rfl)
         have n13 : b 13 = false := Bool.eq_false_iff.2 fun h => absurd (hcl.out 13 11 (by kernel_rfl) (h)) (by rw [hb]; exact Bool.false_ne_true)
         have r10 := v10 d10; have c_hu0a := hH.ext.cell hu0a; have c_hu0b := hH.ext.cell hu0b
         go_simp
         refine hK.out _ ?_ _ ?_ ?_; rotate_left 2
         · (try simp only [r10]); rfl
         exact ⟨hH, v0, v1, v2, v3, v4, v5, v6, v7, v8, v9, v10, fun _ => rfl, v12, fun h => absurd (show b 13 = true from h) (by rw [n13]; exact Bool.false_ne_true)⟩
       refine AllSteps.cons (j := 13) rfl (fun b t wx hJ hb hd hcl Kc hK => ?_) ?_
       · obtain ⟨hH, v0, v1, v2, v3, v4, v5, v6, v7, v8, v9, v10, v11, v12, v13⟩ := hJ
         have d0 := hd.out 0 (by kernel_rfl); have d1 := hd.out 1 (by kernel_rfl); have d2 := hd.out 2 (by kernel_rfl); have d3 := hd.out 3 (by kernel_rfl); have d4 := hd.out 4 (by kernel_rfl); have d5 := hd.out 5 (by kernel_rfl); have r0 := v0 d0; have r1 := v1 d1; have r2 := v2 d2; have r3 := v3 d3; have r4 := v4 d4; have r5 := v5 d5; have c_hu0a := hH.ext.cell hu0a; have c_hu0b := hH.ext.cell hu0b
         go_simp
         refine hK.out _ ?_ _ ?_ ?_; rotate_left 2
         · (try simp only [r0, r1, r2, r3, r4, r5]); rfl
         exact ⟨hH, v0, v1, v2, v3, v4, v5, v6, v7, v8, v9, v10, v11, fun _ => (by first | rfl | exact r5.symm), v13⟩
       refine AllSteps.cons (j := 14) rfl (fun b t wx hJ hb hd hcl Kc hK => ?_) ?_
       · obtain ⟨hH, v0, v1, v2, v3, v4, v5, v6, v7, v8, v9, v10, v11, v12, v13⟩ := hJ
         have d0 := hd.out 0 (by kernel_rfl); have d1 := hd.out 1 (by kernel_rfl); have d2 := hd.out 2 (by kernel_rfl); have d3 := hd.out 3 (by kernel_rfl); have d4 := hd.out 4 (by kernel_rfl); have d5 := hd.out 5 (by kernel_rfl); have d6 := hd.out 6 (by kernel_rfl); have d7 := hd.out 7 (by kernel_rfl); have d8 := hd.out 8 (by kernel_rfl); have d9 := hd.out 9 (by kernel_rfl); have d10 := hd.out 10 (by kernel_rfl); have d11 := hd.out 11 (by kernel_rfl); have d12 := hd.out 12 (by kernel_rfl); have r0 := v0 d0; have r1 := v1 d1; have r2 := v2 d2; have r3 := v3 d3; have r4 := v4 d4; have r5 := v5 d5; have r6 := v6 d6; have r7 := v7 d7; have r8 := v8 d8; have r9 := v9 d9; have r10 := v10 d10; have r11 := v11 d11; have r12 := v12 d12; have c_hu0a := hH.ext.cell hu0a; have c_hu0b := hH.ext.cell hu0b
         go_simp
         refine hK.out _ ?_ _ ?_ ?_; rotate_left 2
         · (try simp only [r0, r1, r2, r3, r4, r5, r6, r7, r8, r9, r10, r11, r12]); rfl
         exact ⟨hH, v0, v1, v2, v3, v4, v5, v6, v7, v8, v9, v10, v11, v12, fun _ => (by first | rfl | exact r11.symm)⟩
       exact AllSteps.nil
     case hEb =>
      intro b t wb hJ hall
      obtain ⟨hHb, v0, v1, v2, v3, v4, v5, v6, v7, v8, v9, v10, v11, v12, v13⟩ := hJ
      have a0 := hall 0 (by decide); have a1 := hall 1 (by decide); have a2 := hall 2 (by decide); have a3 := hall 3 (by decide); have a4 := hall 4 (by decide); have a5 := hall 5 (by decide); have a6 := hall 6 (by decide); have a7 := hall 7 (by decide); have a8 := hall 8 (by decide); have a9 := hall 9 (by decide); have a10 := hall 10 (by decide); have a11 := hall 11 (by decide); have a12 := hall 12 (by decide); have a13 := hall 13 (by decide)
      (try simp only [a0, a1, a2, a3, a4, a5, a6, a7, a8, a9, a10, a11, a12, a13, cond_true] at hHb)
      replace v0 := v0 a0; replace v1 := v1 a1; replace v2 := v2 a2; replace v3 := v3 a3; replace v4 := v4 a4; replace v5 := v5 a5; replace v6 := v6 a6; replace v7 := v7 a7; replace v8 := v8 a8; replace v9 := v9 a9; replace v10 := v10 a10; replace v11 := v11 a11; replace v12 := v12 a12; replace v13 := v13 a13
      clear hall a0 a1 a2 a3 a4 a5 a6 a7 a8 a9 a10 a11 a12 a13
      generalize t 13 = x13 at hHb v13 ⊢; generalize t 12 = x12 at hHb v12 ⊢; generalize t 11 = x11 at hHb v11 v13 ⊢; generalize t 10 = x10 at hHb v10 ⊢; generalize t 9 = x9 at hHb v9 ⊢; generalize t 8 = x8 at hHb v8 ⊢; generalize t 7 = x7 at hHb v7 ⊢; generalize t 6 = x6 at hHb v6 ⊢; generalize t 5 = x5 at hHb v5 v12 ⊢; generalize t 4 = x4 at hHb v4 ⊢; generalize t 3 = x3 at hHb v3 ⊢; generalize t 2 = x2 at hHb v2 ⊢; generalize t 1 = x1 at hHb v1 ⊢; generalize t 0 = x0 at hHb v0 ⊢; subst v0; subst v1; subst v2; subst v3; subst v4; subst v5; subst v6; subst v7; subst v8; subst v9; subst v10; subst v11; subst v12; subst v13
      clear b
      replace hH := hHb; clear hHb
      replace hH : Held w wb [aB (w.heap.size) 29 [.int .i64 k, .int .i64 p, .int .i64 n, .slice (some ⟨bT, oT, none⟩) m cV, .slice aO op.length cO], aB (w.heap.size + 1) 29 [.int .i64 0, .int .i64 0, .int .i64 0, .slice none 0 0, .slice none 0 0]] := hH
      obtain ⟨wz, rfl⟩ : ∃ q, q = wb := ⟨wb, rfl⟩
      obtain ⟨q0_0, q0_1, q0_2, q0_3, q0_4, l0_⟩ := hH.c5 0 rfl; obtain ⟨q1_0, q1_1, q1_2, q1_3, q1_4, l1_⟩ := hH.c5 1 rfl
      go_wp2_with fail
      clear q0_0 q0_1 q0_2 q0_3 q0_4 l0_ q1_0 q1_1 q1_2 q1_3 q1_4 l1_
      refine (allIn_any _ _ tla tlb _ (hTLa.ext hH.ext) (hTLb.ext hH.ext)).mono ?_; rintro e1 w1 ⟨rfl, rfl⟩
      cases hab : (tla.all fun x => hasL tlb x)
      ·
       have HAB := Lib.hid hab; clear hab
       obtain ⟨q0_0, q0_1, q0_2, q0_3, q0_4, l0_⟩ := hH.c5 0 rfl; obtain ⟨q1_0, q1_1, q1_2, q1_3, q1_4, l1_⟩ := hH.c5 1 rfl
       go_wp2_with fail
       clear q0_0 q0_1 q0_2 q0_3 q0_4 l0_ q1_0 q1_1 q1_2 q1_3 q1_4 l1_
       refine (allIn_any _ _ tlb tla _ (hTLb.ext hH.ext) (hTLa.ext hH.ext)).mono ?_; rintro e2 w2 ⟨rfl, rfl⟩
       cases hba : (tlb.all fun x => hasL tla x)
       ·
        have HBA := Lib.hid hba; clear hba
        have HNX : Hid (NoPairTo ts i (j + 1)) := Lib.hid (HNJ.out.next HTJa.out HTJb.out HAB.out HBA.out)
        go_wp2_with fail
        go_roundw
        case rel => exact ⟨j + 1, by omega, by omega, by first | rfl | go_num, HNX, hH⟩
        case measure => simp [RowKit.intOf]; omega
       ·
        have HNO : Hid (¬ NoPair ts) := Lib.hid (noPair_no (by omega) HTJa.out HTJb.out (.inr hba)); clear hba
        obtain ⟨q0_0, q0_1, q0_2, q0_3, q0_4, l0_⟩ := hH.c5 0 rfl; obtain ⟨q1_0, q1_1, q1_2, q1_3, q1_4, l1_⟩ := hH.c5 1 rfl
        go_wp2_with fail
        clear q0_0 q0_1 q0_2 q0_3 q0_4 l0_ q1_0 q1_1 q1_2 q1_3 q1_4 l1_
        refine (mergeTensors_lt HR.out HN.out _ _ _ (hT0.ext hH.ext) (hO0.ext hH.ext) i j (by rw [HM.out]; exact hlt) (by rw [HM.out]; exact hlt2) (by omega)).mono ?_; rintro ewn3 wn3 ⟨tv9, ov9, cs, rfl, hJ⟩
        obtain ⟨aP, cP, rfl⟩ := (hJ.own (k := 1) rfl).shape1 op.length rfl
        obtain ⟨aK, cK, rfl, _, _⟩ := (hJ.tensS (k := 0) rfl).val
        obtain ⟨mK, hmK⟩ : ∃ q, ((mrgL HR.out dm ts op i j).map (tenOf dm)).length = q := ⟨_, rfl⟩
        rw [hmK] at hJ ⊢; clear hmK
        replace hH : Held w wn3 [aB (w.heap.size) 29 [.int .i64 k, .int .i64 p, .int .i64 n, .slice (some ⟨bT, oT, none⟩) m cV, .slice aO op.length cO], aB (w.heap.size + 1) 29 [.int .i64 0, .int .i64 0, .int .i64 0, .slice none 0 0, .slice none 0 0], aTs (.slice aK mK cK) cs ((mrgL HR.out dm ts op i j).map (tenOf dm)), aI (.slice aP op.length cP) op] := hH.join hJ (fun q hq => by cases hq)
        clear hJ
        obtain ⟨q0_0, q0_1, q0_2, q0_3, q0_4, l0_⟩ := hH.c5 0 rfl; obtain ⟨q1_0, q1_1, q1_2, q1_3, q1_4, l1_⟩ := hH.c5 1 rfl
        go_upto_region 10 with fail
        clear q0_0 q0_1 q0_2 q0_3 q0_4 l0_ q1_0 q1_1 q1_2 q1_3 q1_4 l1_
        have hB : Held w (wn3.alloc (.cells #[.int .i64 k, .int .i64 p, .int .i64 n, .slice aK mK cK, .slice aP op.length cP] 29)) [aB (w.heap.size) 29 [.int .i64 k, .int .i64 p, .int .i64 n, .slice (some ⟨bT, oT, none⟩) m cV, .slice aO op.length cO], aB (w.heap.size + 1) 29 [.int .i64 0, .int .i64 0, .int .i64 0, .slice none 0 0, .slice none 0 0], aTs (.slice aK mK cK) cs ((mrgL HR.out dm ts op i j).map (tenOf dm)), aI (.slice aP op.length cP) op, aB (wn3.heap.size) 29 [.int .i64 k, .int .i64 p, .int .i64 n, .slice aK mK cK, .slice aP op.length cP]] := by
         have h := (hH.mores 1).addB 4 #[.int .i64 k, .int .i64 p, .int .i64 n, .slice aK mK cK, .slice aP op.length cP] 29
         exact h
        have hsz : (wn3.alloc (.cells #[.int .i64 k, .int .i64 p, .int .i64 n, .slice aK mK cK, .slice aP op.length cP] 29)).heap.size = wn3.heap.size + 1 := by simp
        generalize wn3.alloc (.cells #[.int .i64 k, .int .i64 p, .int .i64 n, .slice aK mK cK, .slice aP op.length cP] 29) = wn4 at hB hsz ⊢
        replace hH := hB; have HSZwn4 := Lib.hid hsz; clear hB hsz
        obtain ⟨q0_0, q0_1, q0_2, q0_3, q0_4, l0_⟩ := hH.c5 0 rfl; obtain ⟨q1_0, q1_1, q1_2, q1_3, q1_4, l1_⟩ := hH.c5 1 rfl; have f1_0 := hH.fr 1 0 rfl; have f1_1 := hH.fr 1 1 rfl; have f1_2 := hH.fr 1 2 rfl; have f1_3 := hH.fr 1 3 rfl; have f1_4 := hH.fr 1 4 rfl; obtain ⟨q4_0, q4_1, q4_2, q4_3, q4_4, l4_⟩ := hH.c5 4 rfl
        go_wp2_with fail
        refine bodyPost_ret (v := .tuple #[.agg #[.int .i64 k, .int .i64 p, .int .i64 n, .slice aK mK cK, .slice aP op.length cP], .bool true]) (by simp [results, Try.results144, go_sem, *]) rfl ?_
        exact ⟨.inr ⟨i, j, _, _, cs, by omega, by rw [HM.out]; exact hlt2, HNO.out, rfl, ((hH.setB5 (k := 1) rfl (.int .i64 k) (.int .i64 p) (.int .i64 n) (.slice aK mK cK) (.slice aP op.length cP)).sub (.cons _ (.cons _ (.cons_cons _ (.cons_cons _ (.cons _ .slnil))))))⟩⟩
      ·
       have HNO : Hid (¬ NoPair ts) := Lib.hid (noPair_no (by omega) HTJa.out HTJb.out (.inl hab)); clear hab
       obtain ⟨q0_0, q0_1, q0_2, q0_3, q0_4, l0_⟩ := hH.c5 0 rfl; obtain ⟨q1_0, q1_1, q1_2, q1_3, q1_4, l1_⟩ := hH.c5 1 rfl
       go_wp2_with fail
       clear q0_0 q0_1 q0_2 q0_3 q0_4 l0_ q1_0 q1_1 q1_2 q1_3 q1_4 l1_
       refine (mergeTensors_lt HR.out HN.out _ _ _ (hT0.ext hH.ext) (hO0.ext hH.ext) i j (by rw [HM.out]; exact hlt) (by rw [HM.out]; exact hlt2) (by omega)).mono ?_; rintro ewn5 wn5 ⟨tv9, ov9, cs, rfl, hJ⟩
       obtain ⟨aP, cP, rfl⟩ := (hJ.own (k := 1) rfl).shape1 op.length rfl
       obtain ⟨aK, cK, rfl, _, _⟩ := (hJ.tensS (k := 0) rfl).val
       obtain ⟨mK, hmK⟩ : ∃ q, ((mrgL HR.out dm ts op i j).map (tenOf dm)).length = q := ⟨_, rfl⟩
       rw [hmK] at hJ ⊢; clear hmK
       replace hH : Held w wn5 [aB (w.heap.size) 29 [.int .i64 k, .int .i64 p, .int .i64 n, .slice (some ⟨bT, oT, none⟩) m cV, .slice aO op.length cO], aB (w.heap.size + 1) 29 [.int .i64 0, .int .i64 0, .int .i64 0, .slice none 0 0, .slice none 0 0], aTs (.slice aK mK cK) cs ((mrgL HR.out dm ts op i j).map (tenOf dm)), aI (.slice aP op.length cP) op] := hH.join hJ (fun q hq => by cases hq)
       clear hJ
       obtain ⟨q0_0, q0_1, q0_2, q0_3, q0_4, l0_⟩ := hH.c5 0 rfl; obtain ⟨q1_0, q1_1, q1_2, q1_3, q1_4, l1_⟩ := hH.c5 1 rfl
       go_upto_region 10 with fail
       clear q0_0 q0_1 q0_2 q0_3 q0_4 l0_ q1_0 q1_1 q1_2 q1_3 q1_4 l1_
       have hB : Held w (wn5.alloc (.cells #[.int .i64 k, .int .i64 p, .int .i64 n, .slice aK mK cK, .slice aP op.length cP] 29)) [aB (w.heap.size) 29 [.int .i64 k, .int .i64 p, .int .i64 n, .slice (some ⟨bT, oT, none⟩) m cV, .slice aO op.length cO], aB (w.heap.size + 1) 29 [.int .i64 0, .int .i64 0, .int .i64 0, .slice none 0 0, .slice none 0 0], aTs (.slice aK mK cK) cs ((mrgL HR.out dm ts op i j).map (tenOf dm)), aI (.slice aP op.length cP) op, aB (wn5.heap.size) 29 [.int .i64 k, .int .i64 p, .int .i64 n, .slice aK mK cK, .slice aP op.length cP]] := by
        have h := (hH.mores 1).addB 4 #[.int .i64 k, .int .i64 p, .int .i64 n, .slice aK mK cK, .slice aP op.length cP] 29
        exact h
       have hsz : (wn5.alloc (.cells #[.int .i64 k, .int .i64 p, .int .i64 n, .slice aK mK cK, .slice aP op.length cP] 29)).heap.size = wn5.heap.size + 1 := by simp
       generalize wn5.alloc (.cells #[.int .i64 k, .int .i64 p, .int .i64 n, .slice aK mK cK, .slice aP op.length cP] 29) = wn6 at hB hsz ⊢
       replace hH := hB; have HSZwn6 := Lib.hid hsz; clear hB hsz
       obtain ⟨q0_0, q0_1, q0_2, q0_3, q0_4, l0_⟩ := hH.c5 0 rfl; obtain ⟨q1_0, q1_1, q1_2, q1_3, q1_4, l1_⟩ := hH.c5 1 rfl; have f1_0 := hH.fr 1 0 rfl; have f1_1 := hH.fr 1 1 rfl; have f1_2 := hH.fr 1 2 rfl; have f1_3 := hH.fr 1 3 rfl; have f1_4 := hH.fr 1 4 rfl; obtain ⟨q4_0, q4_1, q4_2, q4_3, q4_4, l4_⟩ := hH.c5 4 rfl
       go_wp2_with fail
       refine bodyPost_ret (v := .tuple #[.agg #[.int .i64 k, .int .i64 p, .int .i64 n, .slice aK mK cK, .slice aP op.length cP], .bool true]) (by simp [results, Try.results144, go_sem, *]) rfl ?_
       exact ⟨.inr ⟨i, j, _, _, cs, by omega, by rw [HM.out]; exact hlt2, HNO.out, rfl, ((hH.setB5 (k := 1) rfl (.int .i64 k) (.int .i64 p) (.int .i64 n) (.slice aK mK cK) (.slice aP op.length cP)).sub (.cons _ (.cons _ (.cons_cons _ (.cons_cons _ (.cons _ .slnil))))))⟩⟩
    ·
     have HNX : Hid (NoPairTo ts (i + 1) 0) := Lib.hid (HNJ.out.row (by rw [HM.out]; omega))
     obtain ⟨q0_0, q0_1, q0_2, q0_3, q0_4, l0_⟩ := hH.c5 0 rfl; obtain ⟨q1_0, q1_1, q1_2, q1_3, q1_4, l1_⟩ := hH.c5 1 rfl
     go_wp2_with fail
     clear q0_0 q0_1 q0_2 q0_3 q0_4 l0_ q1_0 q1_1 q1_2 q1_3 q1_4 l1_
     go_roundw
     case rel => exact ⟨i + 1, by omega, by go_num, HNX, hH⟩
     case measure => simp [RowKit.intOf]; omega
  ·
   have HNX : Hid (NoPair ts) := Lib.hid (HNP.out.all (by rw [HM.out]; omega))
   obtain ⟨q0_0, q0_1, q0_2, q0_3, q0_4, l0_⟩ := hH.c5 0 rfl; obtain ⟨q1_0, q1_1, q1_2, q1_3, q1_4, l1_⟩ := hH.c5 1 rfl; have f1_0 := hH.fr 1 0 rfl; have f1_1 := hH.fr 1 1 rfl; have f1_2 := hH.fr 1 2 rfl; have f1_3 := hH.fr 1 3 rfl; have f1_4 := hH.fr 1 4 rfl
   go_wp2_with fail
   refine bodyPost_ret (v := .tuple #[.agg #[.int .i64 0, .int .i64 0, .int .i64 0, .slice none 0 0, .slice none 0 0], .bool false]) (by simp [results, Try.results144, go_sem, *]) rfl ?_
   exact ⟨.inl ⟨rfl, HNX.out, (hH.setB5 (k := 1) rfl (.int .i64 0) (.int .i64 0) (.int .i64 0) (.slice none 0 0) (.slice none 0 0)).ext⟩⟩
end Go.Proofs.Ytpegckmagiaggaa
