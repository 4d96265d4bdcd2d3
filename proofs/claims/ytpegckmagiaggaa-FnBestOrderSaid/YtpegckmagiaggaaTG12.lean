/- Texts of one kind, merged by program. -/
import Derived.Test.YtpegckmagiaggaaTNetW
import Derived.Test.YtpegckmagiaggaaTArrB
import Derived.Test.YtpegckmagiaggaaTG8
/- SubNetwork of the program. -/
set_option linter.unusedSimpArgs false
set_option linter.unusedVariables false
namespace Go.Proofs.Ytpegckmagiaggaa
open Go.RowKit
section
variable {k p n : Int}
variable {dm : Int → Int} {U : List Int} {ts : List (NT k p n)} {op : List Int}
theorem IsN.opR (h : IsN k p n dm U ts op) : ∀ x ∈ op, 0 ≤ x ∧ x ≤ 99 := fun x hx => (h.opIn x hx).1
theorem filter_snoc_yes {f : Int → Bool} {l : List Int} {j : Nat} {x : Int} (h : l[j]? = some x) (hx : f x = true) : (l.take (j + 1)).filter f = (l.take j).filter f ++ [x] := by
  rw [take_snoc' h, List.filter_append]; simp [hx]
theorem filter_snoc_no {f : Int → Bool} {l : List Int} {j : Nat} {x : Int} (h : l[j]? = some x) (hx : f x = false) : (l.take (j + 1)).filter f = (l.take j).filter f := by
  rw [take_snoc' h, List.filter_append]; simp [hx]
end
theorem Try.infoState : (Try.prog.info? 143).map (fun i => (i.zero, i.size)) = some (some (.agg (Array.replicate 100 (.int .i64 0) ++ #[.slice none 0 0, .slice none 0 0, .int .i64 0])), 103) := by kernel_rfl
theorem fold_front : ∀ (vs cs pre tl : List Value) (k : Nat), pre.length = k → cs.length = vs.length →
    (vs.zipIdx k).foldl (fun (a : Array Value) (p : Value × Nat) => a.setIfInBounds (0 + p.2) p.1) (pre ++ cs ++ tl).toArray = (pre ++ vs ++ tl).toArray
  | [], cs, pre, tl, k, hp, hc => by
    have : cs = [] := List.length_eq_zero_iff.1 hc
    subst this; rfl
  | v :: vs, [], _, _, _, _, hc => by simp at hc
  | v :: vs, c :: cs, pre, tl, k, hp, hc => by
    rw [List.zipIdx_cons, List.foldl_cons]
    have e : (pre ++ c :: cs ++ tl).toArray.setIfInBounds (0 + k) v = ((pre ++ [v]) ++ cs ++ tl).toArray := by
      rw [List.setIfInBounds_toArray, Nat.zero_add]
      congr 1
      rw [List.append_assoc, List.set_append_right _ _ (by omega), hp, Nat.sub_self, List.cons_append, List.set_cons_zero]
      simp
    rw [e, fold_front vs cs (pre ++ [v]) tl (k + 1) (by simp [hp]) (by simpa using hc)]
    simp
theorem run_build_state {A : List Int} (hA : A.length = 100) (a : Option Addr) (n c : Nat) (nx : Int) (w : World) : (Instr.build 143 #[(0, .agg (arrV A)), (1, .slice a n c), (3, .int .i64 nx)]).run Try.prog w = .ok (.agg (arrV A ++ #[.slice a n c, .slice none 0 0, .int .i64 nx])) w := by
  obtain ⟨i, hi, hz⟩ := Option.map_eq_some_iff.1 Try.infoState
  simp only [Prod.mk.injEq] at hz
  have hs : (arrV A).size = 100 := by rw [arrV_size, hA]
  have hf : (arrV A).zipIdx.foldl (fun (cs : Array Value) (p : Value × Nat) => cs.setIfInBounds (0 + p.2) p.1) (Array.replicate 100 (.int .i64 0) ++ #[.slice none 0 0, .slice none 0 0, .int .i64 0]) = arrV A ++ #[.slice none 0 0, .slice none 0 0, .int .i64 0] := by
    have h := fold_front (ints A) (List.replicate 100 (.int .i64 0)) [] [.slice none 0 0, .slice none 0 0, .int .i64 0] 0 rfl (by rw [ints_length, hA, List.length_replicate])
    have e1 : (Array.replicate 100 (Value.int .i64 0) ++ #[.slice none 0 0, .slice none 0 0, .int .i64 0]) = ([] ++ List.replicate 100 (Value.int .i64 0) ++ [Value.slice none 0 0, Value.slice none 0 0, Value.int .i64 0]).toArray := by simp
    rw [← Array.foldl_toList, Array.toList_zipIdx, arrV_list, e1, h]
    simp [arrV]
  have hfill : Instr.fill (fun x => [(0, 100), (100, 1), (101, 1), (102, 1)][x]?) (Array.replicate 100 (Value.int IntKind.i64 0) ++ #[Value.slice none 0 0, Value.slice none 0 0, Value.int IntKind.i64 0]) [(0, Value.agg (arrV A)), (1, Value.slice a n c), (3, Value.int IntKind.i64 nx)] = some (arrV A ++ #[.slice a n c, .slice none 0 0, .int .i64 nx]) := by
    have hsz : (Array.replicate 100 (Value.int IntKind.i64 0) ++ #[Value.slice none 0 0, Value.slice none 0 0, Value.int IntKind.i64 0]).size = 103 := by simp
    rw [Instr.fill]
    simp only [List.getElem?_cons_zero, Value.cells, hs, hsz]
    rw [if_neg (by simp), hf]
    simp [Instr.fill, Value.cells, hs, Array.setIfInBounds_append_right]
  simp [Instr.build, zeroValue, typeInfo, hi, hz.1, Sem.run_bind, Value.cells, Try.underlying143]
  rw [hfill]
  rfl
theorem Try.infoLive : (Try.prog.info? 140).map (fun i => (i.zero, i.size, i.bytes)) = some (some (.agg #[.int .i64 0, .slice none 0 0]), 2, 32) := by kernel_rfl
def cells2 (c : Int × Value) : List Value := [.int .i64 c.1, c.2]
theorem cells2_len (cs : List (Int × Value)) : (cs.flatMap cells2).length = cs.length * 2 := by
  induction cs with
  | nil => rfl
  | cons x l ih => rw [List.flatMap_cons, List.length_append, ih, List.length_cons]; simp [cells2]; omega
theorem cells2_get {cs : List (Int × Value)} {i : Nat} {c : Int × Value} (h : cs[i]? = some c) : (cs.flatMap cells2)[2 * i]? = some (.int .i64 c.1) ∧ (cs.flatMap cells2)[2 * i + 1]? = some c.2 := by
  induction cs generalizing i with
  | nil => simp at h
  | cons x l ih =>
    cases i with
    | zero => simp at h; subst h; exact ⟨rfl, rfl⟩
    | succ i =>
      have h2 := ih (i := i) (by simpa using h)
      have e1 : 2 * (i + 1) = 2 * i + 1 + 1 := by omega
      rw [List.flatMap_cons, e1]
      exact h2
def fpV2 (cs : List (Int × Value)) : List Nat := cs.flatMap fun c => c.2.ownBlock.toList
theorem mem_fpV2 {cs : List (Int × Value)} {b : Nat} : b ∈ fpV2 cs ↔ ∃ c ∈ cs, c.2.ownBlock = some b := by
  unfold fpV2
  rw [List.mem_flatMap]
  exact ⟨fun ⟨u, hu, hb⟩ => ⟨u, hu, by simpa using hb⟩, fun ⟨u, hu, hb⟩ => ⟨u, hu, by simpa using hb⟩⟩
structure OwnLv (w : World) (v : Value) (cs : List (Int × Value)) (ls : List (List Int)) : Prop where
  len : cs.length = ls.length
  row : w.ownsRow 0 140 2 v ls.length (cs.flatMap cells2)
  elem : ∀ (i : Nat) (c : Int × Value) (l : List Int), cs[i]? = some c → ls[i]? = some l → OwnI w 0 c.2 l
def aLv (v : Value) (cs : List (Int × Value)) (ls : List (List Int)) : Asn :=
  ⟨v.ownBlock.toList ++ fpV2 cs, fun w => OwnLv w v cs ls,
   fun w w' e h => ⟨h.len, ownsRow_near h.row fun b hb => e b (by simp [hb]), fun i u l hu hl => (h.elem i u l hu hl).near fun b hb => e b (List.mem_append_right _ (mem_fpV2.2 ⟨u, List.mem_of_getElem? hu, hb⟩))⟩,
   fun w h b hb => by
     rcases List.mem_append.1 hb with hb | hb
     · exact (ownsRow_lt h.row (by simpa using hb)).2
     · obtain ⟨u, hu, hb⟩ := mem_fpV2.1 hb
       obtain ⟨i, hi⟩ := List.getElem?_of_mem hu
       have hlt : i < ls.length := by rw [← h.len]; exact (List.getElem?_eq_some_iff.1 hi).1
       exact ((h.elem i u ls[i] hi (List.getElem?_eq_getElem hlt)).block_lt hb).2⟩
theorem OwnLv.nil (w : World) : OwnLv w (.slice none 0 0) [] [] := ⟨rfl, ⟨rfl, .inl ⟨rfl, rfl⟩⟩, fun i c t h => by simp at h⟩
structure LiveR (w : World) (s : Nat) (v : Value) (cs : List (Int × Value)) (ls : List (List Int)) : Prop where
  len : cs.length = ls.length
  row : Row w 2 v ls.length (cs.flatMap cells2)
  elem : ∀ (i : Nat) (c : Int × Value) (l : List Int), cs[i]? = some c → ls[i]? = some l → IntS w c.2 l
  off : 0 < ls.length → v.ownBlock ≠ some s
  offs : ∀ (i : Nat) (c : Int × Value) (l : List Int), cs[i]? = some c → ls[i]? = some l → 0 < l.length → c.2.ownBlock ≠ some s
theorem OwnLv.liveR {w : World} {s : Nat} {v : Value} {cs : List (Int × Value)} {ls : List (List Int)} (h : OwnLv w v cs ls) (hs : s ∉ (aLv v cs ls).fp) : LiveR w s v cs ls :=
  ⟨h.len, ownsRow_row h.row, fun i c l hc hl => (h.elem i c l hc hl).ints, fun _ e => hs (List.mem_append_left _ (by simp [e])), fun i c l hc _ _ e => hs (List.mem_append_right _ (mem_fpV2.2 ⟨c, List.mem_of_getElem? hc, e⟩))⟩
theorem LiveR.ext {w w' : World} {s : Nat} {v : Value} {cs : List (Int × Value)} {ls : List (List Int)} (h : LiveR w s v cs ls) (e : Ext w w') : LiveR w' s v cs ls :=
  ⟨h.len, h.row.ext e, fun i c l hc hl => (h.elem i c l hc hl).ext e, h.off, h.offs⟩
theorem Row.keep {w w' : World} {s size n : Nat} {v : Value} {xs : List Value} (h : Row w size v n xs) (g : w.grownBy w' (some s)) (hs : 0 < xs.length → v.ownBlock ≠ some s) : Row w' size v n xs := by
  obtain ⟨hl, a, cap, hv, h1, h2, h3⟩ := h
  refine ⟨hl, a, cap, hv, h1, h2, fun hp => ?_⟩
  obtain ⟨b, off, ha, hc⟩ := h3 hp
  refine ⟨b, off, ha, fun j u hj => ?_⟩
  have c1 := hc j u hj
  have hb : b ≠ s := by
    rintro rfl
    subst hv ha
    exact hs hp rfl
  have hlt := World.block_lt_of_cell? _ _ c1
  rw [← c1]
  have := g.block b hlt (fun e => hb (Option.some.inj e))
  simp only [World.cell?]
  rw [this]
theorem IntS.keep {w w' : World} {s : Nat} {v : Value} {l : List Int} (h : IntS w v l) (g : w.grownBy w' (some s)) (hs : 0 < l.length → v.ownBlock ≠ some s) : IntS w' v l := ⟨h.row.keep g fun hp => hs (by rwa [ints_length] at hp)⟩
theorem LiveR.keep {w w' : World} {s : Nat} {v : Value} {cs : List (Int × Value)} {ls : List (List Int)} (h : LiveR w s v cs ls) (g : w.grownBy w' (some s)) : LiveR w' s v cs ls :=
  ⟨h.len, h.row.keep g (fun hp => h.off (by rw [cells2_len, h.len] at hp; omega)), fun i c l hc hl => (h.elem i c l hc hl).keep g (h.offs i c l hc hl), h.off, h.offs⟩
theorem LiveR.get {w : World} {s : Nat} {a : Option Addr} {n cap : Nat} {cs : List (Int × Value)} {ls : List (List Int)} (h : LiveR w s (.slice a n cap) cs ls) {i : Nat} (hi : i < ls.length) :
    ∃ b o c l, a = some ⟨b, o, none⟩ ∧ cs[i]? = some c ∧ ls[i]? = some l ∧ w.cell? ⟨b, o + 2 * i, none⟩ = some (.int .i64 c.1) ∧ w.cell? ⟨b, o + (2 * i + 1), none⟩ = some c.2 ∧ IntS w c.2 l := by
  obtain ⟨a', cap', hv, _, _, h3⟩ := h.row.val
  cases hv
  have hci : i < cs.length := by rw [h.len]; exact hi
  obtain ⟨b, o, ha, hc⟩ := h3 (by rw [cells2_len]; omega)
  have e1 := List.getElem?_eq_getElem hci
  have e2 := List.getElem?_eq_getElem hi
  obtain ⟨g1, g2⟩ := cells2_get e1
  exact ⟨b, o, _, _, ha, e1, e2, hc _ _ g1, hc _ _ g2, h.elem i _ _ e1 e2⟩
theorem LiveR.val {w : World} {s : Nat} {v : Value} {cs : List (Int × Value)} {ls : List (List Int)} (h : LiveR w s v cs ls) : ∃ a cap, v = .slice a ls.length cap ∧ ls.length ≤ cap ∧ cap ≤ 9223372036854775807 := by
  obtain ⟨a, cap, hv, h1, h2, _⟩ := h.row.val
  exact ⟨a, cap, hv, h1, h2⟩
structure OrdS (w : World) (s : Nat) (A : List Int) (op : List Int) (cs : List (Int × Value)) (ls : List (List Int)) (nx : Int) : Prop where
  has : ∃ ov lv, Blk w s 143 (Proofs.Ytpegckmagiaggaa.ints A ++ [ov, lv, .int .i64 nx]) ∧ IntS w ov op ∧ (0 < op.length → ov.ownBlock ≠ some s) ∧ LiveR w s lv cs ls
theorem OrdS.ext {w w' : World} {s : Nat} {A op : List Int} {cs : List (Int × Value)} {ls : List (List Int)} {nx : Int} (h : OrdS w s A op cs ls nx) (e : Ext w w') : OrdS w' s A op cs ls nx := by
  obtain ⟨ov, lv, h1, h2, h3, h4⟩ := h.has
  exact ⟨ov, lv, h1.ext e, h2.ext e, h3, h4.ext e⟩
theorem OrdS.lt {w : World} {s : Nat} {A op : List Int} {cs : List (Int × Value)} {ls : List (List Int)} {nx : Int} (h : OrdS w s A op cs ls nx) : s < w.heap.size := by
  obtain ⟨ov, lv, h1, _⟩ := h.has; exact h1.lt
section
variable {w : World} {s : Nat} {A : List Int} {x y z : Value}
theorem state_100 (hA : A.length = 100) (h : Blk w s 143 (Proofs.Ytpegckmagiaggaa.ints A ++ [x, y, z])) : w.cell? ⟨s, 100, none⟩ = some x ∧ w.cell? ⟨s, 101, none⟩ = some y ∧ w.cell? ⟨s, 102, none⟩ = some z := by
  have hl : (Proofs.Ytpegckmagiaggaa.ints A).length = 100 := by rw [ints_length, hA]
  refine ⟨h.cell ?_, h.cell ?_, h.cell ?_⟩
  · rw [List.getElem?_append_right (by omega), hl]; rfl
  · rw [List.getElem?_append_right (by omega), hl]; rfl
  · rw [List.getElem?_append_right (by omega), hl]; rfl
theorem state_set101 (hA : A.length = 100) (u : Value) : (Proofs.Ytpegckmagiaggaa.ints A ++ [x, y, z]).set 101 u = Proofs.Ytpegckmagiaggaa.ints A ++ [x, u, z] := by
  have hl : (Proofs.Ytpegckmagiaggaa.ints A).length = 100 := by rw [ints_length, hA]
  rw [List.set_append_right _ _ (by omega), hl]; rfl
theorem state_set102 (hA : A.length = 100) (u : Value) : (Proofs.Ytpegckmagiaggaa.ints A ++ [x, y, z]).set 102 u = Proofs.Ytpegckmagiaggaa.ints A ++ [x, y, u] := by
  have hl : (Proofs.Ytpegckmagiaggaa.ints A).length = 100 := by rw [ints_length, hA]
  rw [List.set_append_right _ _ (by omega), hl]; rfl
end
theorem wpList_load_arrS {ops : Array Oper} {rest : List Oper} {o : Oper} {a : Act} {w : World} {Q : Exit → Act → World → Prop} (hg : o.guard = none) (x : Operand) (ho : o.op = .load 99 x) {b : Nat} {A : List Int} {tl : List Value} (hx : a.eval x = .pointer (some ⟨b, 0, none⟩)) (hB : Blk w b 143 (Proofs.Ytpegckmagiaggaa.ints A ++ tl)) (hl : A.length = 100)
    (h : wpList Try.prog ops Q rest (a.put o.dst (.agg (arrV A))) w) : wpList Try.prog ops Q (o :: rest) a w := by
  refine wpList_load_mid (P := Try.prog) hg _ x ho b 0 hx (Proofs.Ytpegckmagiaggaa.ints A) (.array 100 3) (fun j v hj => by
    rw [Nat.zero_add]
    refine hB.cell ?_
    rw [List.getElem?_append_left (List.getElem?_eq_some_iff.1 hj).1, hj]) (by kernel_rfl) rfl (by rw [Try.sizeArr, ints_length, hl]) ?_
  exact h
section
variable {ops : Array Oper} {rest : List Oper} {o : Oper} {a : Act} {w : World} {Q : Exit → Act → World → Prop}
theorem wpList_build_state (hg : o.guard = none) (x y z : Operand) (ho : o.op = .build 143 #[(0, x), (1, y), (3, z)]) {A : List Int} (hA : A.length = 100) {av : Option Addr} {n c : Nat} {nx : Int} (hx : a.eval x = .agg (arrV A)) (hy : a.eval y = .slice av n c) (hz : a.eval z = .int .i64 nx)
    (h : wpList Try.prog ops Q rest (a.put o.dst (.agg (arrV A ++ #[.slice av n c, .slice none 0 0, .int .i64 nx]))) w) : wpList Try.prog ops Q (o :: rest) a w := by
  refine wpList_plain hg fun K hK => ?_
  unfold Oper.wp execOp
  simp only [ho, hx, hy, hz, Sem.run_bind, List.map_toArray, List.map_cons, List.map_nil, run_build_state hA, Sem.run_pure, Result.andThen_ok]
  exact hK _ _ h
theorem wpList_box_state (hg : o.guard = none) (x : Operand) (ho : o.op = .box 143 x) {C : Array Value} (hx : a.eval x = .agg C)
    (h : wpList Try.prog ops Q rest (a.put o.dst (.pointer (some ⟨w.heap.size, 0, none⟩))) (w.alloc (.cells C 143))) : wpList Try.prog ops Q (o :: rest) a w := by
  refine wpList_plain hg fun K hK => ?_
  unfold Oper.wp execOp
  simp [ho, hx, Sem.run_bind, Instr.box, newVar, newRow, Value.cells, Sem.run_pure, Result.andThen_ok]
  exact hK _ _ h
end
theorem OwnLv.shape {w : World} {v : Value} {cs : List (Int × Value)} {ls : List (List Int)} (h : OwnLv w v cs ls) : ∃ a c, v = .slice a ls.length c := by
  obtain ⟨a, c, hv, _⟩ := (ownsRow_row h.row).val
  exact ⟨a, c, hv⟩
section
variable {ex : Option Nat} {a w w' : World} {L : List Asn} {k1 k2 : Nat}
theorem HeldX.nilLv (h : HeldX ex a w L) : HeldX ex a w (L ++ [aLv (.slice none 0 0) [] []]) := by
  have h2 := h.more
  have h3 := h2.alter (k := L.length) (A0 := emp) (A := aLv (.slice none 0 0) [] []) (by simp) (OwnLv.nil _) (fun b hb => by simp [aLv, fpV2, Value.ownBlock] at hb)
  rwa [List.set_append_right _ _ (Nat.le_refl _), Nat.sub_self, List.set_cons_zero] at h3
theorem ints_not_live {w : World} {B B' size n b : Nat} {v v' : Value} {xs : List Value} {l : List Int} (h : w.ownsRow B 140 size v n xs) (hb : v.ownBlock = some b) (o : OwnI w B' v' l) {c : Nat} (hc : v'.ownBlock = some c) : c ≠ b := by
  rintro rfl
  rcases h.2 with ⟨rfl, _⟩ | ⟨g, cap, cur, rfl, h3, h4, _⟩
  · simp [Value.ownBlock] at hb
  · simp [Value.ownBlock] at hb
    subst hb
    rcases o.own with ⟨rfl, _⟩ | ⟨b', rest, h1, rfl, h5, _⟩
    · simp [Value.ownBlock] at hc
    · simp [Value.ownBlock] at hc
      subst hc
      rw [h5.row] at h4
      simp at h4
theorem row_blk2 {w : World} {q : Nat} {T : TypeId} {x y : Value} (h : Blk w q T [x, y]) : Row w 2 (.slice (some ⟨q, 0, none⟩) 1 1) 1 [x, y] :=
  ⟨rfl, some ⟨q, 0, none⟩, 1, rfl, Nat.le_refl _, by unfold maxLen; omega, fun _ => ⟨q, 0, rfl, fun j u hj => by rw [Nat.zero_add]; exact h.cell hj⟩⟩
theorem run_pushLv (ty : TypeId) {v src x : Value} {cs : List (Int × Value)} {ls : List (List Int)} {l1 : List Int} (nm : Int) (h : HeldX ex a w L) (h1 : L[k1]? = some (aLv v cs ls)) (h2 : L[k2]? = some (aI x l1)) (hne : k1 ≠ k2) (hr : Row w 2 src 1 [.int .i64 nm, x]) (hb : ls.length + 1 ≤ 1099511627) :
    ∃ v' w', (Builtin.append_ #[141, 141] ty #[v, src]).run Try.prog w = .ok v' w' ∧ HeldX ex a w' ((L.set k2 emp).set k1 (aLv v' (cs ++ [(nm, x)]) (ls ++ [l1]))) ∧ w.grownBy w' v.ownBlock := by
  have ho : OwnLv w v cs ls := h.get h1
  have hx : OwnI w 0 x l1 := h.get h2
  obtain ⟨i, hi, hzz⟩ := Option.map_eq_some_iff.1 Try.infoLive
  simp only [Prod.mk.injEq] at hzz
  obtain ⟨hz, hsz, hby⟩ := hzz
  obtain ⟨_, _, rfl, _⟩ := hx.ints.val
  obtain ⟨v', w', e1, e2, e3, e4⟩ := run_app (P := Try.prog) w 0 141 ty 140 i _ 2 32 Try.underlying141 hi hz hsz hby rfl (by omega) v _ _ ho.row src 1 _ hr (by intro u hu; simp at hu; rcases hu with rfl | rfl <;> rfl) (by unfold maxLen; omega) (by omega) (Nat.zero_le _)
  refine ⟨v', w', e1, h.merge h1 h2 hne e3 (fun b hb => by simp [aLv, hb]) ?_ fun c hc => ?_, e3⟩
  · have far : ∀ {u : Value} {l : List Int}, OwnI w 0 u l → OwnI w' 0 u l := fun {u l} o =>
      o.near fun c hc => by
        refine e3.block c (o.block_lt hc).2 fun e => ?_
        exact ints_not_live ho.row e.symm o hc rfl
    refine ⟨by simp [ho.len], ?_, fun j c t hc ht => ?_⟩
    · rw [List.length_append, List.flatMap_append]
      exact ownsRow_any e2
    · have hl := ho.len
      rcases Nat.lt_or_ge j ls.length with hj | hj
      · rw [List.getElem?_append_left (by omega)] at hc
        rw [List.getElem?_append_left hj] at ht
        exact far (ho.elem j c t hc ht)
      · rw [List.getElem?_append_right (by omega)] at hc
        rw [List.getElem?_append_right hj] at ht
        have e0 : j - ls.length = 0 := by
          have := (List.getElem?_eq_some_iff.1 ht).1
          simp at this; omega
        rw [e0] at ht
        rw [show j - cs.length = 0 by omega] at hc
        simp at hc ht
        subst hc ht
        exact far hx
  · rcases List.mem_append.1 hc with hc | hc
    · rcases e4 with e4 | e4
      · exact .inl (List.mem_append_left _ (by rw [← e4]; exact hc))
      · rw [e4] at hc; simp at hc; exact .inr (.inr (by omega))
    · obtain ⟨d, hd, hc⟩ := mem_fpV2.1 hc
      rcases List.mem_append.1 hd with hd | hd
      · exact .inl (List.mem_append_right _ (mem_fpV2.2 ⟨d, hd, hc⟩))
      · simp at hd
        subst hd
        exact .inr (.inl (by simp [aI, hc]))
end
def aR (T : TypeId) (sz : Nat) (v : Value) (n : Nat) (xs : List Value) : Asn :=
  ⟨v.ownBlock.toList, fun w => w.ownsRow 0 T sz v n xs, fun w w' e h => ownsRow_near h fun b hb => e b (by simp [hb]), fun w h b hb => (ownsRow_lt h (by simpa using hb)).2⟩
section
variable {ex : Option Nat} {a w w' : World} {L : List Asn} {k : Nat}
theorem HeldX.nilR (h : HeldX ex a w L) (T : TypeId) (sz : Nat) : HeldX ex a w (L ++ [aR T sz (.slice none 0 0) 0 []]) := by
  have h2 := h.more
  have h3 := h2.alter (k := L.length) (A0 := emp) (A := aR T sz (.slice none 0 0) 0 []) (by simp) ⟨by simp, .inl ⟨rfl, rfl⟩⟩ (fun b hb => by simp [aR, Value.ownBlock] at hb)
  rwa [List.set_append_right _ _ (Nat.le_refl _), Nat.sub_self, List.set_cons_zero] at h3
theorem run_pushR (ty : TypeId) {v src x y : Value} {n : Nat} {xs : List Value} (h : HeldX ex a w L) (h1 : L[k]? = some (aR 140 2 v n xs)) (hr : Row w 2 src 1 [x, y]) (hx : x.oneCell' = true) (hy : y.oneCell' = true) (hb : n + 1 ≤ 1099511627) :
    ∃ v' w', (Builtin.append_ #[141, 141] ty #[v, src]).run Try.prog w = .ok v' w' ∧ HeldX ex a w' (L.set k (aR 140 2 v' (n + 1) (xs ++ [x, y]))) ∧ w.grownBy w' v.ownBlock ∧ Row w' 2 v' (n + 1) (xs ++ [x, y]) := by
  have ho : w.ownsRow 0 140 2 v n xs := h.get h1
  obtain ⟨i, hi, hzz⟩ := Option.map_eq_some_iff.1 Try.infoLive
  simp only [Prod.mk.injEq] at hzz
  obtain ⟨hz, hsz, hby⟩ := hzz
  obtain ⟨v', w', e1, e2, e3, e4⟩ := run_app (P := Try.prog) w 0 141 ty 140 i _ 2 32 Try.underlying141 hi hz hsz hby rfl (by omega) v _ _ ho src 1 _ hr (by intro u hu; simp at hu; rcases hu with rfl | rfl; exact hx; exact hy) (by unfold maxLen; omega) (by omega) (Nat.zero_le _)
  refine ⟨v', w', e1, h.turn h1 e3 (fun b hb => by simp [aR, hb]) e2 fun c hc => ?_, e3, ownsRow_row e2⟩
  rcases e4 with e4 | e4
  · left; have hc' : c ∈ v'.ownBlock.toList := hc; rw [e4] at hc'; exact hc'
  · right; have hc' : c ∈ v'.ownBlock.toList := hc; rw [e4] at hc'; simp at hc'; omega
end
structure ListsU (dm : Int → Int) (U : List Int) (ls : List (List Int)) : Prop where
  uni : Uni dm U
  nodup : ∀ l ∈ ls, l.Nodup
  sub : ∀ l ∈ ls, ∀ y ∈ l, y ∈ U
section
variable {dm : Int → Int} {U : List Int} {ls : List (List Int)}
theorem ListsU.len (h : ListsU dm U ls) {l : List Int} (hl : l ∈ ls) : l.length ≤ 12 := (h.uni.ax ⟨h.nodup l hl, h.sub l hl⟩).rank
end
theorem OwnLs.at {w : World} {a : Option Addr} {n cap : Nat} {vs : List Value} {ls : List (List Int)} (h : OwnLs w (.slice a n cap) vs ls) {i : Nat} (hi : i < ls.length) :
    ∃ b off u l, a = some ⟨b, off, none⟩ ∧ w.cell? ⟨b, off + i, none⟩ = some u ∧ OwnI w 0 u l ∧ ls[i]? = some l ∧ u ∈ vs := by
  obtain ⟨a', cap', hv, _, _, h3⟩ := (ownsRow_row h.row).val
  cases hv
  have hr := h.row.1
  obtain ⟨b, off, ha, hc⟩ := h3 (by have := h.len; omega)
  have hi' : i < vs.length := by rw [h.len]; exact hi
  exact ⟨b, off, vs[i], ls[i], ha, hc i _ (List.getElem?_eq_getElem hi'), h.elem i _ _ (List.getElem?_eq_getElem hi') (List.getElem?_eq_getElem hi), List.getElem?_eq_getElem hi, List.getElem_mem hi'⟩
end Go.Proofs.Ytpegckmagiaggaa
