/- Texts of one kind, merged by program. -/
import Derived.Test.YtlgjddgajdjllaaGreatDoorTDimsW
import Derived.Test.YtlgjddgajdjllaaGreatDoorTG5
/- Tensors that are read: do their labels have one dimension each, plain. No program in sight. -/
set_option linter.unusedSimpArgs false
set_option linter.unusedVariables false
namespace Go.Proofs.YtlgjddgajdjllaaGreatDoor
open Go.RowKit
def dimAt : List Int → List Int → Int → Int
  | l :: L, d :: D, x => if l = x then d else dimAt L D x
  | _, _, _ => 0
theorem dimAt_get : ∀ {L D : List Int} {q : Nat} {x d : Int}, L.Nodup → L[q]? = some x → D[q]? = some d → dimAt L D x = d
  | [], _, _, _, _, _, h, _ => by simp at h
  | _ :: _, [], _, _, _, _, _, h => by simp at h
  | l :: L, e :: D, 0, x, d, _, h1, h2 => by
    simp at h1 h2; subst h1 h2
    rw [dimAt, if_pos rfl]
  | l :: L, e :: D, q + 1, x, d, hn, h1, h2 => by
    rw [List.getElem?_cons_succ] at h1 h2
    have hn2 := List.nodup_cons.1 hn
    have : l ≠ x := fun e => hn2.1 (e ▸ List.mem_of_getElem? h1)
    rw [dimAt, if_neg this]
    exact dimAt_get hn2.2 h1 h2
def dimF : List Ten3 → Int → Int
  | [], _ => 0
  | t :: T, x => if hasL t.1 x = true then dimAt t.1 t.2.1 x else dimF T x
theorem occ3_cons (t : Ten3) (T : List Ten3) : occ3 (t :: T) = t.1 ++ occ3 T := rfl
theorem dimF_no : ∀ {T : List Ten3} {x : Int}, x ∉ occ3 T → dimF T x = 0
  | [], _, _ => rfl
  | t :: T, x, h => by
    rw [occ3_cons, List.mem_append] at h
    rw [dimF, if_neg (fun e => h (.inl ((hasL_iff _ _).1 e)))]
    exact dimF_no fun e => h (.inr e)
theorem dimF_append : ∀ {A B : List Ten3} {x : Int}, x ∉ occ3 A → dimF (A ++ B) x = dimF B x
  | [], _, _, _ => rfl
  | t :: A, B, x, h => by
    rw [occ3_cons, List.mem_append] at h
    rw [List.cons_append, dimF, if_neg (fun e => h (.inl ((hasL_iff _ _).1 e)))]
    exact dimF_append fun e => h (.inr e)
structure Axs3 (T : List Ten3) : Prop where
  ax : ∀ t ∈ T, AxOk t.1 t.2.1
theorem dimF_bounds : ∀ {T : List Ten3}, Axs3 T → ∀ {x : Int}, x ∈ occ3 T → 1 ≤ dimF T x ∧ dimF T x ≤ 8
  | [], _, _, h => by simp [occ3] at h
  | t :: T, hT, x, h => by
    have ha := hT.ax t (by simp)
    rw [dimF]
    by_cases e : hasL t.1 x = true
    · rw [if_pos e]
      obtain ⟨q, hq⟩ := List.getElem?_of_mem ((hasL_iff _ _).1 e)
      have hlt := (List.getElem?_eq_some_iff.1 hq).1
      have hd := List.getElem?_eq_getElem (show q < t.2.1.length by rw [← ha.len]; exact hlt)
      rw [dimAt_get ha.nodup hq hd]
      exact ha.dims _ (List.mem_of_getElem? hd)
    · rw [if_neg e]
      rw [occ3_cons, List.mem_append] at h
      exact dimF_bounds ⟨fun s hs => hT.ax s (by simp [hs])⟩ (h.resolve_left fun e2 => e ((hasL_iff _ _).2 e2))
def consB (T : List Ten3) : Bool := T.all fun t => t.2.1 == t.1.map (dimF T)
theorem Axs3.dims3 {T : List Ten3} (h : Axs3 T) {A : List Ten3} (hs : ∀ t ∈ A, t ∈ T) (hc : ∀ t ∈ A, t.2.1 = t.1.map (dimF T)) : Dims3 (dimF T) A :=
  ⟨hc, fun t ht x hx => ⟨(h.ax t (hs t ht)).labs x hx, dimF_bounds h (List.mem_flatMap.2 ⟨t, hs t ht, hx⟩)⟩, fun t ht => (h.ax t (hs t ht)).rank⟩
theorem cons_dims3 {T : List Ten3} (h : Axs3 T) (hc : consB T = true) : Dims3 (dimF T) T :=
  h.dims3 (fun _ ht => ht) fun t ht => by
    have := List.all_eq_true.1 hc t ht
    exact eq_of_beq this
structure BadAt (T : List Ten3) (j q : Nat) (t : Ten3) (x d : Int) : Prop where
  ten : T[j]? = some t
  lab : t.1[q]? = some x
  dim : t.2.1[q]? = some d
  ne : dimF T x ≠ d
  bef : Dims3 (dimF T) (T.take j)
  row : ∀ i, i < q → t.2.1[i]? = (t.1[i]?).map (dimF T)
  old : x ∈ occ3 (T.take j)
  ax : AxOk t.1 t.2.1
theorem first_row {f : Int → Int} : ∀ {L D : List Int}, L.length = D.length → D ≠ L.map f → ∃ (q : Nat) (x d : Int), L[q]? = some x ∧ D[q]? = some d ∧ f x ≠ d ∧ ∀ i, i < q → D[i]? = (L[i]?).map f
  | [], [], _, h => absurd rfl h
  | [], _ :: _, h, _ => by simp at h
  | _ :: _, [], h, _ => by simp at h
  | l :: L, e :: D, hl, h => by
    by_cases c : f l = e
    · subst c
      obtain ⟨q, x, d, h1, h2, h3, h4⟩ := first_row (f := f) (L := L) (D := D) (by simpa using hl) (fun e => h (by rw [e]; rfl))
      refine ⟨q + 1, x, d, by simpa using h1, by simpa using h2, h3, fun i hi => ?_⟩
      rcases i with _ | i
      · rfl
      · simpa using h4 i (by omega)
    · exact ⟨0, l, e, rfl, rfl, c, fun i hi => by omega⟩
theorem first_bad {T : List Ten3} (hT : Axs3 T) : ∀ m, m ≤ T.length → (∀ t ∈ T.take m, t.2.1 = t.1.map (dimF T)) ∨ ∃ j q t x d, BadAt T j q t x d
  | 0, _ => .inl (by simp)
  | m + 1, h => by
    rcases first_bad hT m (by omega) with ih | ih
    · obtain ⟨t, ht⟩ : ∃ t, T[m]? = some t := ⟨_, List.getElem?_eq_getElem (by omega)⟩
      have hax := hT.ax t (List.mem_of_getElem? ht)
      by_cases c : t.2.1 = t.1.map (dimF T)
      · left
        intro s hs
        rw [List.take_add_one, ht] at hs
        rcases List.mem_append.1 hs with hs | hs
        · exact ih s hs
        · simp at hs; subst hs; exact c
      · right
        obtain ⟨q, x, d, h1, h2, h3, h4⟩ := first_row hax.len c
        refine ⟨m, q, t, x, d, ht, h1, h2, h3, hT.dims3 (fun s hs => List.mem_of_mem_take hs) ih, h4, Classical.byContradiction fun hno => h3 ?_, hax⟩
        have e : T = T.take m ++ t :: T.drop (m + 1) := by
          conv => lhs; rw [← List.take_append_drop m T]
          rw [List.drop_eq_getElem_cons (by omega)]
          rw [List.getElem?_eq_getElem (by omega)] at ht
          rw [Option.some.inj ht]
        rw [e, dimF_append hno, dimF, if_pos ((hasL_iff _ _).2 (List.mem_of_getElem? h1))]
        exact dimAt_get hax.nodup h1 h2
    · exact .inr ih
theorem bad_of {T : List Ten3} (hT : Axs3 T) (hc : consB T = false) : ∃ j q t x d, BadAt T j q t x d := by
  rcases first_bad hT T.length (Nat.le_refl _) with h | h
  · rw [List.take_length] at h
    have : consB T = true := List.all_eq_true.2 fun t ht => by rw [beq_iff_eq]; exact h t ht
    rw [this] at hc; cases hc
  · exact h
def openB (T : List Ten3) (O : List Int) : Bool := !(tsize O (O.map (dimF T)) == -1)
theorem openB_long {T : List Ten3} {O : List Int} (h : 12 < O.length) : openB T O = false := by
  unfold openB tsize
  rw [if_pos (.inl h)]; rfl
theorem openB_bad {T : List Ten3} {O : List Int} {x : Int} (hx : x ∈ O) (h : x < 0 ∨ 99 < x ∨ dimF T x = 0) : openB T O = false := by
  cases e : openB T O with
  | false => rfl
  | true =>
    unfold openB at e
    have h2 : tsize O (O.map (dimF T)) ≠ -1 := by simpa using e
    have ha := tsize_iff.1 h2
    have h3 := ha.labs x hx
    have h4 := (ha.dims (dimF T x) (List.mem_map_of_mem hx)).1
    omega
def netB (T : List Ten3) (O : List Int) : Bool := consB T && openB T O
open Go.Lib
structure Good (s : List UInt8) (k p n : Int) (O : List Int) (T : List Ten3) : Prop where
  ring : ringOk k p n = true
  tens : ∀ t ∈ T, tensOk k p n t.1 t.2.1 t.2.2 = true
  len : T.length ≤ 12
  net : netB T O = true
  text : fmtNetB k p n O T = s
theorem netB_open {T : List Ten3} {O : List Int} (h : netB T O = true) : (∀ l ∈ O, 0 ≤ l ∧ l ≤ 99) ∧ O.length ≤ 12 := by
  unfold netB at h
  rw [Bool.and_eq_true] at h
  have h1 := h.2
  unfold openB at h1
  have h2 : tsize O (O.map (dimF T)) ≠ -1 := by simpa using h1
  have ha := tsize_iff.1 h2
  exact ⟨fun l hl => by have := ha.labs l hl; omega, ha.rank⟩
theorem netB_i64 {T : List Ten3} {O : List Int} (h : netB T O = true) : ∀ v ∈ O, isI64 v := fun v hv => by
  have := (netB_open h).1 v hv; unfold isI64; omega
def opI (b : List UInt8) : Option (List Int) := if b.take 4 = openT then (if b.drop 4 = [] then some [] else intsBy 32 (b.drop 5)) else none
theorem opI_open {O : List Int} (h : ∀ v ∈ O, isI64 v) : opI (openL O) = some O := by
  cases O with
  | nil => rfl
  | cons a l =>
    obtain ⟨e, hi⟩ := open_rest h
    unfold opI
    rw [e]
    have e1 : (openT ++ 32 :: fmtL 32 (a :: l)).take 4 = openT := rfl
    have e2 : (openT ++ 32 :: fmtL 32 (a :: l)).drop 4 = 32 :: fmtL 32 (a :: l) := rfl
    have e3 : (openT ++ 32 :: fmtL 32 (a :: l)).drop 5 = fmtL 32 (a :: l) := rfl
    rw [e1, e2, e3, if_pos rfl, if_neg (by simp), hi]
theorem Good.lines {s : List UInt8} {k p n : Int} {O : List Int} {T : List Ten3} (h : Good s k p n O T) : linesL s = fmtRing k p n :: openL O :: T.map fun t => fmtTen k p n t.1 t.2.1 t.2.2 := by
  rw [← h.text, net_lines]; rfl
structure NP (s : List UInt8) (k p n : Int) (O : List Int) (T : List Ten3) (b : Bool) : Prop where
  out : (b = true ∧ Good s k p n O T) ∨ (b = false ∧ k = 0 ∧ p = 0 ∧ n = 0 ∧ O = [] ∧ T = [] ∧ ∀ k p n O T, ¬ Good s k p n O T)
structure Rd (s : List UInt8) (k p n : Int) (O : List Int) (T : List Ten3) : Prop where
  ring : ringOk k p n = true
  tens : ∀ t ∈ T, tensOk k p n t.1 t.2.1 t.2.2 = true
  only : ∀ k' p' n' O' T', Good s k' p' n' O' T' → k' = k ∧ p' = p ∧ n' = n ∧ O' = O ∧ T'.take T.length = T
theorem NP.none {s : List UInt8} (h : ∀ k p n O T, ¬ Good s k p n O T) : NP s 0 0 0 [] [] false := ⟨.inr ⟨rfl, rfl, rfl, rfl, rfl, rfl, h⟩⟩
theorem NP.len {s : List UInt8} (h : (linesL s).length < 2 ∨ 14 < (linesL s).length) : NP s 0 0 0 [] [] false := NP.none fun k p n O T g => by
  have e := g.lines
  have hl := g.len
  rw [e] at h
  simp at h
  omega
theorem NP.ring {s a : List UInt8} {k p n : Int} (ha : (linesL s)[0]? = some a) (h : RP a k p n false) : NP s 0 0 0 [] [] false := NP.none fun k p n O T g => by
  have e := g.lines
  rw [e] at ha
  simp at ha
  rcases h.out with ⟨h1, _⟩ | ⟨_, _, _, _, h2⟩
  · cases h1
  · exact h2 k p n g.ring ha
theorem NP.noI {s b : List UInt8} (hb : (linesL s)[1]? = some b) (h : opI b = .none) : NP s 0 0 0 [] [] false := NP.none fun k p n O T g => by
  have e := g.lines
  rw [e] at hb
  simp at hb
  rw [← hb, opI_open (netB_i64 g.net)] at h
  cases h
theorem Rd.startI {s a b : List UInt8} {k p n : Int} {O : List Int} (ha : (linesL s)[0]? = some a) (h : RP a k p n true) (hb : (linesL s)[1]? = some b) (ho : opI b = some O) : Rd s k p n O [] := by
  rcases h.out with ⟨_, h1, h2⟩ | ⟨h1, _⟩
  · refine ⟨h1, by simp, fun k' p' n' O' T' g => ?_⟩
    have e := g.lines
    rw [e] at ha hb
    simp at ha hb
    obtain ⟨e1, e2, e3⟩ := ring_one g.ring ha h1 h2
    rw [← hb, opI_open (netB_i64 g.net)] at ho
    exact ⟨e1, e2, e3, Option.some.inj ho, by simp⟩
  · cases h1
theorem Rd.line {s l : List UInt8} {k p n : Int} {O : List Int} {T : List Ten3} (h : Rd s k p n O T) (hl : (linesL s)[T.length + 2]? = some l) {k' p' n' : Int} {O' : List Int} {T' : List Ten3} (g : Good s k' p' n' O' T') :
    ∃ t, T'[T.length]? = some t ∧ tensOk k p n t.1 t.2.1 t.2.2 = true ∧ fmtTen k p n t.1 t.2.1 t.2.2 = l := by
  obtain ⟨rfl, rfl, rfl, rfl, e⟩ := h.only _ _ _ _ _ g
  rw [g.lines, List.getElem?_cons_succ, List.getElem?_cons_succ, List.getElem?_map] at hl
  obtain ⟨t, ht, hf⟩ := Option.map_eq_some_iff.1 hl
  exact ⟨t, ht, g.tens t (List.mem_of_getElem? ht), hf⟩
theorem Rd.step {s l : List UInt8} {k p n : Int} {O : List Int} {T : List Ten3} (h : Rd s k p n O T) (hl : (linesL s)[T.length + 2]? = some l) {L D X : List Int} (ht : TP k p n l L D X true) : Rd s k p n O (T ++ [(L, D, X)]) := by
  rcases ht.out with ⟨_, h1, h2⟩ | ⟨h1, _⟩
  · refine ⟨h.ring, fun t ht => ?_, fun k' p' n' O' T' g => ?_⟩
    · rcases List.mem_append.1 ht with ht | ht
      · exact h.tens t ht
      · simp at ht; subst ht; exact h1
    · obtain ⟨t, ht, g1, g2⟩ := h.line hl g
      obtain ⟨e1, e2, e3⟩ := ten_one g1 g2 h1 h2
      obtain ⟨a, b, c, d, e⟩ := h.only _ _ _ _ _ g
      refine ⟨a, b, c, d, ?_⟩
      rw [List.length_append, List.length_singleton, List.take_add_one, e, ht, ← e1, ← e2, ← e3]; rfl
  · cases h1
theorem Rd.bad {s l : List UInt8} {k p n : Int} {O : List Int} {T : List Ten3} (h : Rd s k p n O T) (hl : (linesL s)[T.length + 2]? = some l) {L D X : List Int} (ht : TP k p n l L D X false) : NP s 0 0 0 [] [] false := NP.none fun k' p' n' O' T' g => by
  obtain ⟨t, _, g1, g2⟩ := h.line hl g
  rcases ht.out with ⟨h1, _⟩ | ⟨_, _, _, _, hn⟩
  · cases h1
  · exact hn _ _ _ g1 g2
theorem Rd.all {s : List UInt8} {k p n : Int} {O : List Int} {T : List Ten3} (h : Rd s k p n O T) (hl : (linesL s).length = T.length + 2) {k' p' n' : Int} {O' : List Int} {T' : List Ten3} (g : Good s k' p' n' O' T') : Good s k p n O T := by
  obtain ⟨rfl, rfl, rfl, rfl, e⟩ := h.only _ _ _ _ _ g
  have e2 := congrArg List.length g.lines
  rw [hl] at e2
  simp at e2
  rw [e2, List.take_length] at e
  subst e
  exact g
theorem Rd.yes {s : List UInt8} {k p n : Int} {O : List Int} {T : List Ten3} (h : Rd s k p n O T) (hl : T.length ≤ 12) (hn : netB T O = true) (ht : fmtNetB k p n O T = s) : NP s k p n O T true := ⟨.inl ⟨rfl, h.ring, h.tens, hl, hn, ht⟩⟩
theorem Rd.no {s : List UInt8} {k p n : Int} {O : List Int} {T : List Ten3} (h : Rd s k p n O T) (hl : (linesL s).length = T.length + 2) (hn : netB T O = true → fmtNetB k p n O T ≠ s) : NP s 0 0 0 [] [] false := NP.none fun _ _ _ _ _ g => by
  have g2 := h.all hl g
  exact hn g2.net g2.text
theorem Good.rd {s : List UInt8} {k p n : Int} {O : List Int} {T : List Ten3} (h : Good s k p n O T) {k' p' n' : Int} {O' : List Int} {T' : List Ten3} (h' : Good s k' p' n' O' T') : k = k' ∧ p = p' ∧ n = n' ∧ O = O' ∧ T = T' := by
  have e := h.lines
  rw [h'.lines] at e
  injection e with e1 e
  injection e with e2 e3
  obtain ⟨rfl, rfl, rfl⟩ := ring_one h'.ring e1 h.ring rfl
  have eo : O' = O := by
    have h1 := opI_open (netB_i64 h'.net)
    rw [e2, opI_open (netB_i64 h.net)] at h1
    exact (Option.some.inj h1).symm
  refine ⟨rfl, rfl, rfl, eo.symm, ?_⟩
  apply List.ext_getElem?
  intro i
  have hi := congrArg (fun l : List (List UInt8) => l[i]?) e3
  simp only [List.getElem?_map] at hi
  cases ht : T[i]? with
  | none =>
    rw [ht] at hi
    cases ht' : T'[i]? with
    | none => rfl
    | some t' => rw [ht'] at hi; cases hi
  | some t =>
    rw [ht] at hi
    cases ht' : T'[i]? with
    | none => rw [ht'] at hi; cases hi
    | some t' =>
      rw [ht'] at hi
      have hi2 := Option.some.inj hi
      obtain ⟨a, b, c⟩ := ten_one (h'.tens t' (List.mem_of_getElem? ht')) hi2 (h.tens t (List.mem_of_getElem? ht)) rfl
      obtain ⟨x, y, z⟩ := t
      obtain ⟨x', y', z'⟩ := t'
      simp only at a b c
      subst a b c
      rfl
theorem NP.one {s : List UInt8} {k p n k' p' n' : Int} {O O' : List Int} {T T' : List Ten3} {b b' : Bool} (h : NP s k p n O T b) (h' : NP s k' p' n' O' T' b') : k = k' ∧ p = p' ∧ n = n' ∧ O = O' ∧ T = T' ∧ b = b' := by
  rcases h.out with ⟨rfl, g⟩ | ⟨rfl, rfl, rfl, rfl, rfl, rfl, hn⟩
  · rcases h'.out with ⟨rfl, g'⟩ | ⟨_, _, _, _, _, _, hn'⟩
    · obtain ⟨a, b, c, d, e⟩ := g.rd g'; exact ⟨a, b, c, d, e, rfl⟩
    · exact absurd g (hn' _ _ _ _ _)
  · rcases h'.out with ⟨_, g'⟩ | ⟨rfl, rfl, rfl, rfl, rfl, rfl, _⟩
    · exact absurd g' (hn _ _ _ _ _)
    · exact ⟨rfl, rfl, rfl, rfl, rfl, rfl⟩
theorem NP.more {k p n : Int} {O : List Int} {T : List Ten3} (hr : ringOk k p n = true) : ∀ k' p' n' O' T', ¬ Good (fmtNetB k p n O T ++ (openT ++ [10])) k' p' n' O' T' := by
  intro k' p' n' O' T' g
  have e1 : fmtNetB k p n O T ++ (openT ++ [10]) = (netLines k p n O T ++ [openT]).flatMap fun l => l ++ [10] := by
    unfold fmtNetB; rw [List.flatMap_append]; simp
  have e := g.lines
  rw [e1, lines_cat (fun l hl => by
    rcases List.mem_append.1 hl with hl | hl
    · rw [netLines, List.mem_cons, List.mem_cons] at hl
      rcases hl with rfl | rfl | hl
      · exact fmtRing_nl k p n
      · exact openL_nl O
      · obtain ⟨t, _, rfl⟩ := List.mem_map.1 hl
        exact fmtTen_nl k p n _ _ _
    · simp at hl; subst hl; decide)] at e
  have hl := congrArg List.getLast? e
  rw [List.getLast?_append] at hl
  simp only [List.getLast?_singleton, Option.some_or] at hl
  cases hT : T'.reverse with
  | nil =>
    have : T' = [] := by simpa using hT
    subst this
    have := congrArg List.length e
    simp [netLines] at this
  | cons t r =>
    have e5 : T' = r.reverse ++ [t] := by have := congrArg List.reverse hT; simpa using this
    rw [e5, List.map_append] at hl
    simp only [List.map_cons, List.map_nil] at hl
    rw [← List.cons_append, ← List.cons_append, List.getLast?_append, List.getLast?_singleton, Option.some_or] at hl
    have hf := Option.some.inj hl
    have hp := (ten_pieces (g.tens t (by rw [e5]; simp)) hf.symm).1
    have : pT k' p' n' (sp 32 openT) = Option.none := by
      rw [sp_none (show (32 : UInt8) ∉ openT by decide)]
      rw [pT]
      rfl
    rw [this] at hp
    cases hp
end Go.Proofs.YtlgjddgajdjllaaGreatDoor
