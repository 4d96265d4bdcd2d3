/- Texts of one kind, merged by program. -/
import Derived.Test.YtlgjddgajdjllaaGreatDoorTPElemW
import Derived.Test.YtlgjddgajdjllaaGreatDoorTG4
/- Tensors as text, plain: the text of a tensor, and what reading it gives. No program in sight. -/
set_option linter.unusedSimpArgs false
set_option linter.unusedVariables false
namespace Go.Proofs.YtlgjddgajdjllaaGreatDoor
open Go.RowKit
open Go.Lib
def axTok (l d : Int) : List UInt8 := itoa l ++ 58 :: itoa d
def chunks (W : Nat) : Nat → List Int → List (List Int)
  | 0, _ => []
  | P + 1, X => X.take W :: chunks W P (X.drop W)
theorem chunks_length (W : Nat) : ∀ (P : Nat) (X : List Int), (chunks W P X).length = P
  | 0, _ => rfl
  | P + 1, X => by rw [chunks, List.length_cons, chunks_length W P]
theorem chunks_get (W : Nat) : ∀ {P i : Nat} {X : List Int}, i < P → (chunks W P X)[i]? = some (getL X (i * W) W)
  | 0, i, X, h => by omega
  | P + 1, 0, X, h => by simp [chunks, getL]
  | P + 1, i + 1, X, h => by
    rw [chunks, List.getElem?_cons_succ, chunks_get W (by omega), getL, getL, List.drop_drop, Nat.succ_mul, Nat.add_comm]
theorem chunks_flatten (W : Nat) : ∀ {P : Nat} {X : List Int}, X.length = P * W → (chunks W P X).flatten = X
  | 0, X, h => by simp at h; simp [chunks, h]
  | P + 1, X, h => by
    rw [Nat.succ_mul] at h
    rw [chunks, List.flatten_cons, chunks_flatten W (by simp; omega), List.take_append_drop]
theorem chunks_mem {W : Nat} : ∀ {P : Nat} {X x : List Int}, X.length = P * W → x ∈ chunks W P X → x.length = W ∧ ∀ v ∈ x, v ∈ X
  | 0, X, x, _, h => by simp [chunks] at h
  | P + 1, X, x, hl, h => by
    rw [Nat.succ_mul] at hl
    rw [chunks, List.mem_cons] at h
    rcases h with rfl | h
    · exact ⟨by simp; omega, fun v hv => List.mem_of_mem_take hv⟩
    · obtain ⟨h1, h2⟩ := chunks_mem (by simp; omega) h
      exact ⟨h1, fun v hv => List.mem_of_mem_drop (h2 v hv)⟩
def tenToks (W P : Nat) (L D X : List Int) : List (List UInt8) := List.zipWith axTok L D ++ [61] :: (chunks W P X).map (fmtL 44)
def fmtTen (k p n : Int) (L D X : List Int) : List UInt8 := if tensOk k p n L D X = true then join (tenToks (ringWidth k n).toNat (prodL D).toNat L D X) [32] else []
theorem fmtTen_no {k p n : Int} {L D X : List Int} (h : tensOk k p n L D X = false) : fmtTen k p n L D X = [] := by simp [fmtTen, h]
theorem fmtTen_yes {k p n : Int} {L D X : List Int} (h : tensOk k p n L D X = true) : fmtTen k p n L D X = join (tenToks (ringWidth k n).toNat (prodL D).toNat L D X) [32] := by simp [fmtTen, h]
theorem join_clean {c d : UInt8} (h : c ≠ d) : ∀ {l : List (List UInt8)}, (∀ p ∈ l, c ∉ p) → c ∉ join l [d]
  | [], _ => by simp [join]
  | [a], h1 => by simpa [join] using h1
  | a :: b :: l, h1 => by
    have ih := join_clean h (l := b :: l) fun p hp => h1 p (List.mem_cons_of_mem _ hp)
    have ha := h1 a (by simp)
    have e : join (a :: b :: l) [d] = a ++ [d] ++ join (b :: l) [d] := by simp [join]
    rw [e, List.mem_append, List.mem_append, List.mem_singleton]
    rintro ((h3 | h3) | h3)
    · exact ha h3
    · exact h h3
    · exact ih h3
theorem fmtL_clean (x : List Int) : (32 : UInt8) ∉ fmtL 44 x := by
  unfold fmtL
  refine join_clean (by decide) fun p hp => ?_
  obtain ⟨v, _, rfl⟩ := List.mem_map.1 hp
  exact itoa_clean (by decide) (by decide) v
theorem fmtL_ne {x : List Int} (h : x ≠ []) : fmtL 44 x ≠ [] := by
  cases x with
  | nil => exact absurd rfl h
  | cons a l =>
    have := itoa_ne a
    cases l with
    | nil => simpa [fmtL, join] using this
    | cons b l =>
      intro e
      have e2 : fmtL 44 (a :: b :: l) = itoa a ++ ([44] ++ fmtL 44 (b :: l)) := by simp [fmtL, join]
      rw [e2] at e
      exact this (List.append_eq_nil_iff.1 e).1
theorem axTok_clean (l d : Int) : (32 : UInt8) ∉ axTok l d := by
  have h1 := itoa_clean (c := 32) (by decide) (by decide) l
  have h2 := itoa_clean (c := 32) (by decide) (by decide) d
  simp [axTok, h1, h2]
theorem axTok_ne (l d : Int) : axTok l d ≠ [] := by simp [axTok]
theorem axTok_eq (l d : Int) : axTok l d ≠ [61] := by
  have h1 := itoa_ne l
  have h2 := itoa_ne d
  intro e
  have := congrArg List.length e
  simp [axTok] at this
  have h3 : 0 < (itoa l).length := List.length_pos_iff.2 h1
  omega
theorem axTok_ints {l d : Int} (hl : isI64 l) (hd : isI64 d) : intsBy 58 (axTok l d) = some [l, d] := by
  have := intsBy_join (c := 58) (by decide) (by decide) (x := [l, d]) (by simp [hl, hd])
  simpa [join, axTok] using this
def axP : List (List UInt8) → Option (List Int × List Int × List (List UInt8))
  | [] => none
  | t :: ts => if t = [61] then some ([], [], ts) else match intsBy 58 t with
    | some [a, b] => (axP ts).map fun q => (a :: q.1, b :: q.2.1, q.2.2)
    | _ => none
theorem axP_toks (r : List (List UInt8)) : ∀ {L D : List Int}, L.length = D.length → (∀ l ∈ L, isI64 l) → (∀ d ∈ D, isI64 d) → axP (List.zipWith axTok L D ++ [61] :: r) = some (L, D, r)
  | [], [], _, _, _ => by simp [axP]
  | l :: L, d :: D, h, hl, hd => by
    rw [List.zipWith_cons_cons, List.cons_append, axP, if_neg (axTok_eq l d), axTok_ints (hl l (by simp)) (hd d (by simp)), axP_toks r (by simpa using h) (fun x hx => hl x (by simp [hx])) (fun x hx => hd x (by simp [hx]))]
    rfl
def pT (k p n : Int) (ts : List (List UInt8)) : Option (List Int × List Int × List Int) :=
  (axP ts).bind fun q => (q.2.2.mapM (peO k p n)).map fun xs => (q.1, q.2.1, xs.flatten)
theorem peO_fmt {k p n : Int} {x : List Int} (h : elemOk k p n x = true) : peO k p n (fmtL 44 x) = some x := by
  have hne : x ≠ [] := by
    intro e; subst e; rw [elemOk_nil] at h; cases h
  have h64 := (elemOk_i64 h).1
  refine peO_yes ?_ h
  have e : sp 44 (fmtL 44 x) = x.map itoa := by
    unfold fmtL
    refine sp_join (by simpa using hne) fun p hp => ?_
    obtain ⟨v, _, rfl⟩ := List.mem_map.1 hp
    exact itoa_clean (by decide) (by decide) v
  rw [e, mapM_itoa h64]
theorem mapM_fmt {k p n : Int} : ∀ {xs : List (List Int)}, (∀ x ∈ xs, elemOk k p n x = true) → (xs.map (fmtL 44)).mapM (peO k p n) = some xs
  | [], _ => rfl
  | x :: xs, h => by
    rw [List.map_cons, List.mapM_cons, peO_fmt (h x (by simp)), mapM_fmt fun y hy => h y (by simp [hy])]
    rfl
theorem TOk.chunks_ok {k p n : Int} {L D X : List Int} (hr : ringOk k p n = true) (h : TOk k p n L D X) : X.length = (prodL D).toNat * (ringWidth k n).toNat ∧ (∀ x ∈ chunks (ringWidth k n).toNat (prodL D).toNat X, elemOk k p n x = true) := by
  have hw := ringOk_wide hr
  have h0 := hw.lo
  have p0 := h.ax.pos
  have hl : X.length = (prodL D).toNat * (ringWidth k n).toNat := by
    have := h.len
    have e : prodL D * ringWidth k n = (((prodL D).toNat * (ringWidth k n).toNat : Nat) : Int) := by
      rw [Int.natCast_mul, Int.toNat_of_nonneg (by omega), Int.toNat_of_nonneg (by omega)]
    rw [e] at this
    exact Int.ofNat.inj this
  refine ⟨hl, fun x hx => ?_⟩
  obtain ⟨h1, h2⟩ := chunks_mem hl hx
  rw [elemOk_yes hr]
  exact rawOk_iff.2 ⟨by omega, fun v hv => allTo_iff.1 h.top v (h2 v hv)⟩
theorem ten_pieces {k p n : Int} {L D X : List Int} {s : List UInt8} (h : tensOk k p n L D X = true) (e : fmtTen k p n L D X = s) : pT k p n (sp 32 s) = some (L, D, X) ∧ pT k p n (wordsL s) = some (L, D, X) ∧ s ≠ [] := by
  have hr := tensOk_ring h
  have ht := (tensOk_iff hr).1 h
  obtain ⟨hl, hc⟩ := ht.chunks_ok hr
  have hL : ∀ l ∈ L, isI64 l := fun l hl => by have := ht.ax.labs l hl; unfold isI64; omega
  have hD : ∀ l ∈ D, isI64 l := fun l hl => by have := ht.ax.dims l hl; unfold isI64; omega
  have hw := ringOk_wide hr
  have h0 := hw.lo
  have p0 := ht.ax.pos
  rw [fmtTen_yes h] at e
  obtain ⟨T, hT⟩ : ∃ T, tenToks (ringWidth k n).toNat (prodL D).toNat L D X = T := ⟨_, rfl⟩
  rw [hT] at e
  have hcl : ∀ q ∈ T, (32 : UInt8) ∉ q ∧ q ≠ [] := by
    intro q hq
    rw [← hT, tenToks, List.mem_append, List.mem_cons] at hq
    rcases hq with hq | rfl | hq
    · obtain ⟨i, hi, rfl⟩ := List.mem_iff_getElem.1 hq
      rw [List.getElem_zipWith]
      exact ⟨axTok_clean _ _, axTok_ne _ _⟩
    · decide
    · obtain ⟨x, hx, rfl⟩ := List.mem_map.1 hq
      refine ⟨fmtL_clean x, fmtL_ne fun e => ?_⟩
      have := hc x hx
      rw [e, elemOk_nil] at this; cases this
  have hne : T ≠ [] := by rw [← hT, tenToks]; simp
  have hsp : sp 32 s = T := by rw [← e]; exact sp_join hne fun q hq => (hcl q hq).1
  have hwo : wordsL s = T := by
    rw [wordsL, hsp, List.filter_eq_self]
    intro q hq
    simpa using (hcl q hq).2
  have hp : pT k p n T = some (L, D, X) := by
    rw [← hT, tenToks, pT, axP_toks _ ht.ax.len hL hD, Option.bind_some, mapM_fmt hc, Option.map_some, chunks_flatten _ hl]
  refine ⟨by rw [hsp]; exact hp, by rw [hwo]; exact hp, fun e0 => ?_⟩
  rw [e0] at hsp
  have : T = [[]] := hsp.symm
  exact (hcl [] (by rw [this]; simp)).2 rfl
structure TP (k p n : Int) (s : List UInt8) (L D X : List Int) (b : Bool) : Prop where
  out : (b = true ∧ tensOk k p n L D X = true ∧ fmtTen k p n L D X = s) ∨ (b = false ∧ L = [] ∧ D = [] ∧ X = [] ∧ ∀ L D X, tensOk k p n L D X = true → fmtTen k p n L D X ≠ s)
theorem ten_one {k p n : Int} {L D X L' D' X' : List Int} {s : List UInt8} (h : tensOk k p n L D X = true) (e : fmtTen k p n L D X = s) (h' : tensOk k p n L' D' X' = true) (e' : fmtTen k p n L' D' X' = s) : L = L' ∧ D = D' ∧ X = X' := by
  have a := (ten_pieces h e).1
  rw [(ten_pieces h' e').1] at a
  simp at a
  exact ⟨a.1.symm, a.2.1.symm, a.2.2.symm⟩
theorem TP.one {k p n : Int} {s : List UInt8} {L D X L' D' X' : List Int} {b b' : Bool} (h : TP k p n s L D X b) (h' : TP k p n s L' D' X' b') : L = L' ∧ D = D' ∧ X = X' ∧ b = b' := by
  rcases h.out with ⟨rfl, h1, h2⟩ | ⟨rfl, rfl, rfl, rfl, hn⟩
  · rcases h'.out with ⟨rfl, h1', h2'⟩ | ⟨_, _, _, _, hn'⟩
    · obtain ⟨a, b, c⟩ := ten_one h1 h2 h1' h2'; exact ⟨a, b, c, rfl⟩
    · exact absurd h2 (hn' _ _ _ h1)
  · rcases h'.out with ⟨_, h1', h2'⟩ | ⟨rfl, rfl, rfl, rfl, _⟩
    · exact absurd h2' (hn _ _ _ h1')
    · exact ⟨rfl, rfl, rfl, rfl⟩
theorem TP.yes {k p n : Int} {s : List UInt8} {L D X : List Int} (h : tensOk k p n L D X = true) (e : fmtTen k p n L D X = s) : TP k p n s L D X true := ⟨.inl ⟨rfl, h, e⟩⟩
theorem TP.ring {k p n : Int} {s : List UInt8} (h : ringOk k p n = false) : TP k p n s [] [] [] false :=
  ⟨.inr ⟨rfl, rfl, rfl, rfl, fun L D X h' => by rw [tensOk_no h] at h'; cases h'⟩⟩
theorem TP.bad {k p n : Int} {s : List UInt8} (h : pT k p n (sp 32 s) = none) : TP k p n s [] [] [] false :=
  ⟨.inr ⟨rfl, rfl, rfl, rfl, fun L D X h' e => by rw [(ten_pieces h' e).1] at h; cases h⟩⟩
theorem TP.no {k p n : Int} {s : List UInt8} {L D X : List Int} (h : pT k p n (sp 32 s) = some (L, D, X)) (hn : tensOk k p n L D X = true → fmtTen k p n L D X ≠ s) : TP k p n s [] [] [] false := by
  refine ⟨.inr ⟨rfl, rfl, rfl, rfl, fun L' D' X' h' e => ?_⟩⟩
  rw [(ten_pieces h' e).1] at h
  simp at h
  obtain ⟨rfl, rfl, rfl⟩ := h
  exact hn h' e
open Go.Lib
def openT : List UInt8 := [111, 112, 101, 110]
def openL (O : List Int) : List UInt8 := openT ++ O.flatMap fun l => 32 :: itoa l
def netLines (k p n : Int) (O : List Int) (T : List (List Int × List Int × List Int)) : List (List UInt8) := fmtRing k p n :: openL O :: T.map fun t => fmtTen k p n t.1 t.2.1 t.2.2
def fmtNetB (k p n : Int) (O : List Int) (T : List (List Int × List Int × List Int)) : List UInt8 := (netLines k p n O T).flatMap fun l => l ++ [10]
theorem lines_cat : ∀ {ls : List (List UInt8)}, (∀ l ∈ ls, (10 : UInt8) ∉ l) → linesL (ls.flatMap fun l => l ++ [10]) = ls
  | [], _ => lines_nil
  | l :: ls, h => by
    have e : (l :: ls).flatMap (fun l => l ++ [(10 : UInt8)]) = l ++ 10 :: ls.flatMap fun l => l ++ [10] := by simp
    rw [e, lines_at (h l (by simp)), lines_cat fun x hx => h x (by simp [hx])]
theorem itoa_nl (v : Int) : (10 : UInt8) ∉ itoa v := itoa_clean (by decide) (by decide) v
theorem name_nl (k : Int) : (10 : UInt8) ∉ nameL k := by
  unfold nameL
  repeat' split
  all_goals decide
theorem numT_nl (p : Int) : (10 : UInt8) ∉ numT p := by
  unfold numT
  split
  · simp
  · rw [List.mem_cons]
    rintro (h | h)
    · exact absurd h (by decide)
    · exact itoa_nl p h
theorem fmtRing_nl (k p n : Int) : (10 : UInt8) ∉ fmtRing k p n := by
  unfold fmtRing
  split
  · rw [List.mem_append, List.mem_append]
    rintro ((h | h) | h)
    · exact name_nl k h
    · exact numT_nl p h
    · exact numT_nl n h
  · simp
theorem openL_nl (O : List Int) : (10 : UInt8) ∉ openL O := by
  unfold openL
  rw [List.mem_append, List.mem_flatMap]
  rintro (h | ⟨l, _, h⟩)
  · exact absurd h (by decide)
  · rw [List.mem_cons] at h
    rcases h with h | h
    · exact absurd h (by decide)
    · exact itoa_nl l h
theorem fmtL_nl (x : List Int) : (10 : UInt8) ∉ fmtL 44 x := by
  unfold fmtL
  refine join_clean (by decide) fun p hp => ?_
  obtain ⟨v, _, rfl⟩ := List.mem_map.1 hp
  exact itoa_nl v
theorem fmtTen_nl (k p n : Int) (L D X : List Int) : (10 : UInt8) ∉ fmtTen k p n L D X := by
  unfold fmtTen
  split
  · refine join_clean (by decide) fun t ht => ?_
    rw [tenToks, List.mem_append, List.mem_cons] at ht
    rcases ht with ht | rfl | ht
    · obtain ⟨i, hi, rfl⟩ := List.mem_iff_getElem.1 ht
      rw [List.getElem_zipWith, axTok, List.mem_append, List.mem_cons]
      rintro (h | h | h)
      · exact itoa_nl _ h
      · exact absurd h (by decide)
      · exact itoa_nl _ h
    · decide
    · obtain ⟨x, _, rfl⟩ := List.mem_map.1 ht
      exact fmtL_nl x
  · simp
theorem net_lines (k p n : Int) (O : List Int) (T : List (List Int × List Int × List Int)) : linesL (fmtNetB k p n O T) = netLines k p n O T := by
  refine lines_cat fun l hl => ?_
  rw [netLines, List.mem_cons, List.mem_cons] at hl
  rcases hl with rfl | rfl | hl
  · exact fmtRing_nl k p n
  · exact openL_nl O
  · obtain ⟨t, _, rfl⟩ := List.mem_map.1 hl
    exact fmtTen_nl k p n _ _ _
theorem flat_fmt : ∀ (a : Int) (l : List Int), (a :: l).flatMap (fun l => 32 :: itoa l) = 32 :: fmtL 32 (a :: l)
  | a, [] => by simp [fmtL, join]
  | a, b :: l => by
    have ih := flat_fmt b l
    have e : fmtL 32 (a :: b :: l) = itoa a ++ [32] ++ fmtL 32 (b :: l) := by simp [fmtL, join]
    rw [List.flatMap_cons, ih, e]; simp
theorem open_rest {a : Int} {l : List Int} (h : ∀ v ∈ a :: l, isI64 v) : openL (a :: l) = openT ++ 32 :: fmtL 32 (a :: l) ∧ intsBy 32 (fmtL 32 (a :: l)) = some (a :: l) :=
  ⟨by unfold openL; rw [flat_fmt], intsBy_join (by decide) (by decide) h⟩
end Go.Proofs.YtlgjddgajdjllaaGreatDoor
