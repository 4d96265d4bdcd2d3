/- Orders of contraction as sets of tensors: no order costs less than the table of best costs says, and the table's own order costs that much. Plain. No program in sight. -/
import Derived.Test.YtpegckmagiaggaaTG15
import Derived.Test.YtpegckmagiaggaaTOrdZ
import Derived.Test.YtpegckmagiaggaaTSetW
set_option linter.unusedSimpArgs false
set_option linter.unusedVariables false
namespace Go.Proofs.Ytpegckmagiaggaa
open Go.RowKit
theorem bit_pow {L i : Nat} : (2 ^ L).testBit i = true ↔ i = L := by
  rw [Nat.testBit_two_pow, decide_eq_true_eq]
  exact ⟨fun h => h.symm, fun h => h.symm⟩
theorem bit_some {x : Nat} (h : 1 ≤ x) : ∃ i, x.testBit i = true := Nat.exists_testBit_of_ne_zero (by omega)
theorem and_zero_bit {x y i : Nat} (h : x &&& y = 0) (hx : x.testBit i = true) : y.testBit i = false := by
  have h2 : (x &&& y).testBit i = false := by rw [h, Nat.zero_testBit]
  rw [Nat.testBit_and, hx, Bool.true_and] at h2
  exact h2
theorem and_zero_of {x y : Nat} (h : ∀ i, x.testBit i = true → y.testBit i = false) : x &&& y = 0 := by
  refine Nat.eq_of_testBit_eq fun i => ?_
  rw [Nat.testBit_and, Nat.zero_testBit]
  cases hx : x.testBit i
  · rfl
  · rw [h i hx]; rfl
def Sing (s : Nat) : Prop := s = 2 ^ s.log2
instance decSing (s : Nat) : Decidable (Sing s) := inferInstanceAs (Decidable (_ = _))
theorem sing_pow (L : Nat) : Sing (2 ^ L) := by unfold Sing; rw [Nat.log2_two_pow]
theorem sing_bit {s i : Nat} (h : Sing s) : s.testBit i = true ↔ i = s.log2 := by
  obtain ⟨L, hL⟩ : ∃ L, s.log2 = L := ⟨_, rfl⟩
  have h2 : s = 2 ^ s.log2 := h
  rw [hL] at h2 ⊢
  subst h2
  exact bit_pow
theorem not_sing_or {x y : Nat} (hx : 1 ≤ x) (hy : 1 ≤ y) (h : x &&& y = 0) : ¬ Sing (x ||| y) := fun hs => by
  obtain ⟨i, hi⟩ := bit_some hx
  obtain ⟨j, hj⟩ := bit_some hy
  have e1 := (sing_bit (i := i) hs).1 (by rw [Nat.testBit_or, hi]; rfl)
  have e2 := (sing_bit (i := j) hs).1 (by rw [Nat.testBit_or, hj, Bool.or_true])
  rw [e1] at hi
  rw [e2, and_zero_bit h hi] at hj
  cases hj
section
variable {k p n : Int} {dm : Int → Int} {U op : List Int} {ts : List (NT k p n)}
def InB (ts : List (NT k p n)) (s : Nat) (x : Int) : Prop := ∃ (i : Nat) (t : NT k p n), s.testBit i = true ∧ ts[i]? = some t ∧ x ∈ t.1
def OutB (ts : List (NT k p n)) (s : Nat) (x : Int) : Prop := ∃ (i : Nat) (t : NT k p n), s.testBit i = false ∧ ts[i]? = some t ∧ x ∈ t.1
theorem mem_bitN {s : Nat} {x : Int} : x ∈ occ (bitN ts s ts.length) ↔ InB ts s x := by
  rw [mem_occ]
  constructor
  · rintro ⟨t, ht, hx⟩
    obtain ⟨i, _, h⟩ := List.mem_filterMap.1 ht
    by_cases e : s.testBit i = true
    · rw [if_pos e] at h; exact ⟨i, t, e, h, hx⟩
    · rw [if_neg e] at h; cases h
  · rintro ⟨i, t, e, h, hx⟩
    exact ⟨t, List.mem_filterMap.2 ⟨i, List.mem_range.2 (List.getElem?_eq_some_iff.1 h).1, by rw [if_pos e]; exact h⟩, hx⟩
theorem mem_nbitN {s : Nat} {x : Int} : x ∈ occ (nbitN ts s ts.length) ↔ OutB ts s x := by
  rw [mem_occ]
  constructor
  · rintro ⟨t, ht, hx⟩
    obtain ⟨i, _, h⟩ := List.mem_filterMap.1 ht
    by_cases e : s.testBit i = true
    · rw [if_pos e] at h; cases h
    · rw [if_neg e] at h; exact ⟨i, t, eq_false_of_ne_true e, h, hx⟩
  · rintro ⟨i, t, e, h, hx⟩
    exact ⟨t, List.mem_filterMap.2 ⟨i, List.mem_range.2 (List.getElem?_eq_some_iff.1 h).1, by rw [if_neg (by rw [e]; exact Bool.false_ne_true)]; exact h⟩, hx⟩
def labJ (ts : List (NT k p n)) (op : List Int) (j s : Nat) : List Int := if Sing s ∧ s.log2 < j then labAt (ts.map (·.1)) s.log2 else setLab (occ (bitN ts s ts.length)) (occ (nbitN ts s ts.length)) op
def labS (ts : List (NT k p n)) (op : List Int) (s : Nat) : List Int := labJ ts op ts.length s
theorem labS_sing {i : Nat} {t : NT k p n} (h : ts[i]? = some t) : labS ts op (2 ^ i) = t.1 := by
  unfold labS labJ
  rw [Nat.log2_two_pow, if_pos ⟨sing_pow i, (List.getElem?_eq_some_iff.1 h).1⟩]
  exact labAt_map h
theorem labS_sub (h : IsN k p n dm U ts op) (s : Nat) : Sub U (labS ts op s) := by
  unfold labS labJ
  split
  · rename_i e
    have h1 := List.getElem?_eq_getElem e.2
    rw [labAt_map h1]
    exact (h.ten _ (List.mem_of_getElem? h1)).sub
  · refine ⟨setLab_nodup _ _ _, fun x hx => ?_⟩
    obtain ⟨i, t, _, ht, hx⟩ := mem_bitN.1 (mem_setLab.1 hx).2.1
    exact (h.ten t (List.mem_of_getElem? ht)).sub.sub x hx
theorem mem_labS (h : IsN k p n dm U ts op) {s : Nat} (hs : s < 2 ^ ts.length) {x : Int} : x ∈ labS ts op s ↔ InB ts s x ∧ (Sing s ∨ x ∈ op ∨ OutB ts s x) := by
  unfold labS labJ
  by_cases e : Sing s
  · have hl : s.log2 < ts.length := by
      have e2 : s = 2 ^ s.log2 := e
      rw [e2] at hs
      exact (Nat.pow_lt_pow_iff_right (by decide)).1 hs
    rw [if_pos ⟨e, hl⟩]
    have h1 := List.getElem?_eq_getElem hl
    rw [labAt_map h1]
    constructor
    · exact fun hx => ⟨⟨s.log2, _, (sing_bit e).2 rfl, h1, hx⟩, .inl e⟩
    · rintro ⟨⟨i, t, hi, ht, hx⟩, _⟩
      rw [(sing_bit e).1 hi, h1] at ht
      rw [Option.some.inj ht]; exact hx
  · rw [if_neg fun h => e h.1, mem_setLab, mem_bitN, mem_nbitN]
    constructor
    · rintro ⟨_, h2, h3⟩
      exact ⟨h2, .inr h3⟩
    · rintro ⟨h2, h3⟩
      obtain ⟨i, t, _, ht, hx⟩ := id h2
      exact ⟨h.uni.labs ((h.ten t (List.mem_of_getElem? ht)).sub.sub x hx), h2, h3.resolve_left e⟩
def valS (dm : Int → Int) (ts : List (NT k p n)) (op : List Int) (x y : Nat) : Int := szL dm (joinL (labS ts op x) (labS ts op y))
theorem prodL_perm' {a b : List Int} (h : a.Perm b) : prodL a = prodL b := prodL_perm h
theorem szL_same {a b : List Int} (ha : a.Nodup) (hb : b.Nodup) (h : ∀ x, x ∈ a ↔ x ∈ b) : szL dm a = szL dm b := prodL_perm' (((List.perm_ext_iff_of_nodup ha hb).2 h).map dm)
theorem valS_ok (h : IsN k p n dm U ts op) (x y : Nat) : 0 ≤ valS dm ts op x y ∧ valS dm ts op x y ≤ 4096 := by
  have := szL_pos h.uni ((labS_sub h x).join (labS_sub h y))
  unfold valS; omega
theorem valS_comm (h : IsN k p n dm U ts op) (x y : Nat) : valS dm ts op x y = valS dm ts op y x :=
  szL_same ((labS_sub h x).join (labS_sub h y)).nodup ((labS_sub h y).join (labS_sub h x)).nodup fun z => by rw [mem_joinL, mem_joinL]; exact Or.comm
end
section
variable {k p n : Int} {hr : ringOk k p n = true} {dm : Int → Int} {U op : List Int} {ts : List (NT k p n)} {os : List (Int × Int)} {ns : List Int} {tj : List (NT k p n)} {ms : List Nat}
theorem runN_nums (dm : Int → Int) (op : List Int) : ∀ (r : List (Int × Int)) (ns : List Int) (nx : Int) (ts : List (NT k p n)), (runN hr dm op ns nx ts r).1 = numsR ns nx r
  | [], _, _, _ => rfl
  | _ :: r, _, _, _ => runN_nums dm op r _ _ _
theorem AtStep.grow {r : List (Int × Int)} {ns0 : List Int} {nx0 : Int} (h : AtStep hr dm U op ns0 nx0 ts os os.length ns tj) : AtStep hr dm U op ns0 nx0 ts (os ++ r) os.length ns tj := by
  have e : (os ++ r).take os.length = os.take os.length := by rw [List.take_append_of_le_length (Nat.le_refl _)]
  exact ⟨by rw [e]; exact h.eqN, by rw [e]; exact h.eqT, h.isN, h.len, h.left, h.val⟩
theorem costsT_grow {r : List (Int × Int)} {ns0 : List Int} {nx0 : Int} {q : Nat} (hq : q ≤ os.length) : costsT hr dm op ns0 nx0 ts (os ++ r) q = costsT hr dm op ns0 nx0 ts os q := by
  unfold costsT
  refine List.map_congr_left fun j hj => ?_
  have hj := List.mem_range.1 hj
  unfold costAt
  rw [List.getElem?_append_left (by omega), List.take_append_of_le_length (by omega)]
structure LiveM (hr : ringOk k p n = true) (dm : Int → Int) (U op : List Int) (ts : List (NT k p n)) (os : List (Int × Int)) (ns : List Int) (tj : List (NT k p n)) (ms : List Nat) : Prop where
  ats : AtStep hr dm U op (numL ts.length) (ts.length : Int) ts os os.length ns tj
  ok : okO (numL ts.length) (ts.length : Int) os
  nod : ns.Nodup
  lt : ∀ c ∈ ns, 0 ≤ c ∧ c < (ts.length : Int) + os.length
  len : ms.length = tj.length
  lab : ∀ (i : Nat) (t : NT k p n) (s : Nat), tj[i]? = some t → ms[i]? = some s → ∀ x, x ∈ t.1 ↔ x ∈ labS ts op s
  pos : ∀ s ∈ ms, 1 ≤ s ∧ s < 2 ^ ts.length
  cover : ∀ q, q < ts.length → ∃ s ∈ ms, s.testBit q = true
  apart : ms.Pairwise fun s t => s &&& t = 0
def sings (m : Nat) : List Nat := (List.range m).map fun i => 2 ^ i
theorem sings_get {m i : Nat} (h : i < m) : (sings m)[i]? = some (2 ^ i) := by unfold sings; rw [List.getElem?_map, List.getElem?_range h]; rfl
theorem numL_get {m i : Nat} (h : i < m) : (numL m)[i]? = some (i : Int) := by unfold numL; rw [List.getElem?_map, List.getElem?_range h]; rfl
theorem LiveM.start (hN : IsN k p n dm U ts op) : LiveM hr dm U op ts [] (numL ts.length) ts (sings ts.length) := by
  have hM := Making.start ts.length
  refine ⟨AtStep.mk' (hr := hr) (os := []) (by simp [okO]) (numL_len _) hN 0 (Nat.le_refl _), by simp [okO], hM.nodup, hM.lt, by simp [sings], fun i t s ht hs x => ?_, fun s hs => ?_, fun q hq => ⟨2 ^ q, List.mem_of_getElem? (sings_get hq), bit_pow.2 rfl⟩, ?_⟩
  · have hi := (List.getElem?_eq_some_iff.1 ht).1
    rw [sings_get hi] at hs
    cases hs
    rw [labS_sing ht]
  · obtain ⟨i, hi, rfl⟩ := List.mem_map.1 hs
    exact ⟨Nat.one_le_two_pow, Nat.pow_lt_pow_right (by decide) (List.mem_range.1 hi)⟩
  · unfold sings
    refine List.pairwise_map.2 (List.nodup_range.imp fun {a b} hab => and_zero_of fun i hi => ?_)
    rw [bit_pow.1 hi]
    exact eq_false_of_ne_true fun h => hab (bit_pow.1 h)
theorem LiveM.apart_at (h : LiveM hr dm U op ts os ns tj ms) {i j : Nat} {s t : Nat} (hij : i ≠ j) (hi : ms[i]? = some s) (hj : ms[j]? = some t) : s &&& t = 0 := by
  obtain ⟨h1, rfl⟩ := List.getElem?_eq_some_iff.1 hi
  obtain ⟨h2, rfl⟩ := List.getElem?_eq_some_iff.1 hj
  rcases Nat.lt_or_gt_of_ne hij with e | e
  · exact List.pairwise_iff_getElem.1 h.apart i j h1 h2 e
  · rw [Nat.and_comm]; exact List.pairwise_iff_getElem.1 h.apart j i h2 h1 e
theorem LiveM.res (hN : IsN k p n dm U ts op) (h : LiveM hr dm U op ts os ns tj ms) {i j : Nat} {a b : NT k p n} {x y : Nat} (hij : i ≠ j) (ha : tj[i]? = some a) (hb : tj[j]? = some b) (hx : ms[i]? = some x) (hy : ms[j]? = some y) {z : Int} :
    z ∈ resL op (tj.map (·.1)) i j ↔ z ∈ labS ts op (x ||| y) := by
  obtain ⟨hx1, hx2⟩ := h.pos x (List.mem_of_getElem? hx)
  obtain ⟨hy1, hy2⟩ := h.pos y (List.mem_of_getElem? hy)
  have hxy := h.apart_at hij hx hy
  have hA := h.lab i a x ha hx z
  have hB := h.lab j b y hb hy z
  rw [mem_labS hN hx2] at hA
  rw [mem_labS hN hy2] at hB
  rw [mem_resL ha hb, mem_labS hN (Nat.or_lt_two_pow hx2 hy2)]
  constructor
  · rintro ⟨h1, h2⟩
    refine ⟨?_, .inr ?_⟩
    · rcases h1 with h1 | h1
      · obtain ⟨e, t, he, ht, hz⟩ := (hA.1 h1).1
        exact ⟨e, t, by rw [Nat.testBit_or, he]; rfl, ht, hz⟩
      · obtain ⟨e, t, he, ht, hz⟩ := (hB.1 h1).1
        exact ⟨e, t, by rw [Nat.testBit_or, he, Bool.or_true], ht, hz⟩
    · rcases h2 with h2 | h2
      · exact .inl h2
      · obtain ⟨t, ht, hz⟩ := mem_occ.1 h2
        obtain ⟨q, hq, htq⟩ := mem_drop2.1 ht
        have hql := (List.getElem?_eq_some_iff.1 htq).1
        rw [← h.len] at hql
        have hmq := List.getElem?_eq_getElem hql
        have h3 := (h.lab q t _ htq hmq z).1 hz
        rw [mem_labS hN (h.pos _ (List.mem_of_getElem? hmq)).2] at h3
        obtain ⟨e, t', he, ht', hz'⟩ := h3.1
        have n1 := and_zero_bit (h.apart_at (fun e => hq (.inl e)) hmq hx) he
        have n2 := and_zero_bit (h.apart_at (fun e => hq (.inr e)) hmq hy) he
        exact .inr ⟨e, t', by rw [Nat.testBit_or, n1, n2]; rfl, ht', hz'⟩
  · rintro ⟨h1, h2⟩
    have h2 := h2.resolve_left (not_sing_or hx1 hy1 hxy)
    obtain ⟨e, t, he, ht, hz⟩ := h1
    rw [Nat.testBit_or, Bool.or_eq_true] at he
    rcases h2 with h2 | ⟨e2, t2, he2, ht2, hz2⟩
    · refine ⟨?_, .inl h2⟩
      rcases he with he | he
      · exact .inl (hA.2 ⟨⟨e, t, he, ht, hz⟩, .inr (.inl h2)⟩)
      · exact .inr (hB.2 ⟨⟨e, t, he, ht, hz⟩, .inr (.inl h2)⟩)
    · rw [Nat.testBit_or, Bool.or_eq_false_iff] at he2
      obtain ⟨s, hs, hse⟩ := h.cover e2 (List.getElem?_eq_some_iff.1 ht2).1
      obtain ⟨q, hq⟩ := List.getElem?_of_mem hs
      have hqi : q ≠ i := by
        rintro rfl
        rw [hx] at hq; cases hq
        rw [he2.1] at hse; cases hse
      have hqj : q ≠ j := by
        rintro rfl
        rw [hy] at hq; cases hq
        rw [he2.2] at hse; cases hse
      have hql : q < tj.length := by rw [← h.len]; exact (List.getElem?_eq_some_iff.1 hq).1
      have htq := List.getElem?_eq_getElem hql
      refine ⟨?_, .inr (mem_occ.2 ⟨_, mem_drop2.2 ⟨q, fun e => e.elim hqi hqj, htq⟩, ?_⟩)⟩
      · rcases he with he | he
        · exact .inl (hA.2 ⟨⟨e, t, he, ht, hz⟩, .inr (.inr ⟨e2, t2, he2.1, ht2, hz2⟩)⟩)
        · exact .inr (hB.2 ⟨⟨e, t, he, ht, hz⟩, .inr (.inr ⟨e2, t2, he2.2, ht2, hz2⟩)⟩)
      · refine (h.lab q _ s htq hq z).2 ((mem_labS hN (h.pos s hs).2).2 ⟨⟨e2, t2, hse, ht2, hz2⟩, .inr (.inr ⟨e, t, ?_, ht, hz⟩)⟩)
        rcases he with he | he
        · exact and_zero_bit (h.apart_at (Ne.symm hqi) hx hq) he
        · exact and_zero_bit (h.apart_at (Ne.symm hqj) hy hq) he
theorem LiveM.step (hN : IsN k p n dm U ts op) (h : LiveM hr dm U op ts os ns tj ms) {i j : Nat} {a b : Int} {x y : Nat} (hi : ns[i]? = some a) (hj : ns[j]? = some b) (hab : a < b) (hx : ms[i]? = some x) (hy : ms[j]? = some y) :
    LiveM hr dm U op ts (os ++ [(a, b)]) (drop2 ns i j ++ [(ts.length : Int) + os.length]) (tenStep hr dm op ns tj (a, b)) (drop2 ms i j ++ [x ||| y]) ∧
      (costsT hr dm op (numL ts.length) (ts.length : Int) ts (os ++ [(a, b)]) (os ++ [(a, b)]).length).sum = (costsT hr dm op (numL ts.length) (ts.length : Int) ts os os.length).sum + valS dm ts op x y := by
  have ham := List.mem_of_getElem? hi
  have hbm := List.mem_of_getElem? hj
  have hij : i ≠ j := by
    rintro rfl
    rw [hi] at hj
    have := Option.some.inj hj
    omega
  obtain ⟨i', hfi, hi'⟩ := find_nat ham
  obtain ⟨j', hfj, hj'⟩ := find_nat hbm
  obtain rfl := nodup_idx h.nod hi' hi
  obtain rfl := nodup_idx h.nod hj' hj
  have hns : (runN hr dm op (numL ts.length) (ts.length : Int) ts os).1 = ns := by have := h.ats.eqN; rwa [List.take_length] at this
  have hok : okO (numL ts.length) (ts.length : Int) (os ++ [(a, b)]) := okO_snoc h.ok (by rw [← runN_nums (hr := hr) dm op os _ _ ts, hns]; exact ham) (by rw [← runN_nums (hr := hr) dm op os _ _ ts, hns]; exact hbm) hab
  have hA := h.ats.grow (r := [(a, b)])
  have hs : (os ++ [(a, b)])[os.length]? = some (a, b) := by rw [List.getElem?_append_right (Nat.le_refl _)]; simp
  have hnx := hA.next hok (numL_len _) hN hs
  have hnum : numStep ns ((ts.length : Int) + os.length) (a, b) = drop2 ns i' j' ++ [(ts.length : Int) + os.length] := by
    unfold numStep
    rw [hfi, hfj]; rfl
  obtain ⟨i2, j2, ta, tb, e1, e2, hne, hta, htb, hten, hres, hcost⟩ := hA.places hok hs
  have e1' : (i' : Int) = i2 := hfi.symm.trans e1
  have e2' : (j' : Int) = j2 := hfj.symm.trans e2
  obtain rfl : i' = i2 := by omega
  obtain rfl : j' = j2 := by omega
  have hpm := two_perm hij hx hy
  have hap : (x :: y :: drop2 ms i' j').Pairwise fun s t => s &&& t = 0 := (hpm.pairwise_iff (fun {s t} e => by rw [Nat.and_comm]; exact e)).1 h.apart
  have hl1 : (os ++ [(a, b)]).length = os.length + 1 := by simp
  refine ⟨⟨by rw [hl1, ← hnum]; exact hnx.1, hok, ?_, fun c hc => ?_, ?_, fun q t s ht hs z => ?_, fun s hs => ?_, fun q hq => ?_, ?_⟩, ?_⟩
  · have hpn := two_perm hij hi hj
    have hnd := (hpn.nodup_iff.1 h.nod)
    rw [List.nodup_cons, List.nodup_cons] at hnd
    rw [List.nodup_append]
    refine ⟨hnd.2.2, by simp, fun c hc d hd e => ?_⟩
    simp at hd; subst hd; subst e
    have := (h.lt _ (hpn.mem_iff.2 (List.mem_cons_of_mem _ (List.mem_cons_of_mem _ hc)))).2
    omega
  · rw [hl1]
    rcases List.mem_append.1 hc with hc | hc
    · obtain ⟨q, _, hq⟩ := mem_drop2.1 hc
      have := h.lt c (List.mem_of_getElem? hq)
      push_cast; omega
    · simp at hc; subst hc
      push_cast; omega
  · rw [hten, List.length_append, List.length_append, drop2_len2 h.len]; rfl
  · rw [hten] at ht
    rcases drop2_two h.len.symm i' j' ht hs with ⟨q', h1, h2⟩ | ⟨h1, h2⟩
    · exact h.lab q' t s h1 h2 z
    · subst h1 h2
      exact h.res hN hij hta htb hx hy
  · rcases List.mem_append.1 hs with hs | hs
    · obtain ⟨q, _, hq⟩ := mem_drop2.1 hs
      exact h.pos s (List.mem_of_getElem? hq)
    · simp at hs; subst hs
      obtain ⟨p1, p2⟩ := h.pos x (List.mem_of_getElem? hx)
      exact ⟨Nat.le_trans p1 Nat.left_le_or, Nat.or_lt_two_pow p2 (h.pos y (List.mem_of_getElem? hy)).2⟩
  · obtain ⟨s, hs, hb⟩ := h.cover q hq
    have hs2 := hpm.mem_iff.1 hs
    rcases List.mem_cons.1 hs2 with rfl | hs2
    · exact ⟨_, List.mem_append_right _ (List.mem_singleton.2 rfl), by rw [Nat.testBit_or, hb]; rfl⟩
    · rcases List.mem_cons.1 hs2 with rfl | hs2
      · exact ⟨_, List.mem_append_right _ (List.mem_singleton.2 rfl), by rw [Nat.testBit_or, hb, Bool.or_true]⟩
      · exact ⟨s, List.mem_append_left _ hs2, hb⟩
  · rw [List.pairwise_cons, List.pairwise_cons] at hap
    rw [List.pairwise_append]
    refine ⟨hap.2.2, List.pairwise_singleton _ _, fun s hs t ht => ?_⟩
    simp at ht; subst ht
    refine and_zero_of fun e he => ?_
    have n1 := and_zero_bit (y := x) (by rw [Nat.and_comm]; exact hap.1 s (by simp [hs])) he
    have n2 := and_zero_bit (y := y) (by rw [Nat.and_comm]; exact hap.2.1 s hs) he
    rw [Nat.testBit_or, n1, n2]; rfl
  · rw [hl1, costsT_succ, List.sum_append, costsT_grow (Nat.le_refl _), List.sum_singleton, hA.cost hs, hcost]
    congr 1
    have st : Sub U ta.1 := (h.ats.isN.ten ta (List.mem_of_getElem? hta)).sub
    have su : Sub U tb.1 := (h.ats.isN.ten tb (List.mem_of_getElem? htb)).sub
    refine szL_same (st.join su).nodup ((labS_sub hN x).join (labS_sub hN y)).nodup fun z => ?_
    rw [mem_joinL, mem_joinL, h.lab i' ta x hta hx, h.lab j' tb y htb hy]
theorem sum_perm_int {a b : List Int} (h : a.Perm b) : a.sum = b.sum := by
  induction h with
  | nil => rfl
  | cons x _ ih => rw [List.sum_cons, List.sum_cons, ih]
  | swap x y l => rw [List.sum_cons, List.sum_cons, List.sum_cons, List.sum_cons]; omega
  | trans _ _ h1 h2 => exact h1.trans h2
theorem cost_low (hN : IsN k p n dm U ts op) {C F : List Int} {a0 : Nat} (hT : TabT (valS dm ts op) (2 ^ ts.length) C F (2 ^ ts.length) a0) (hM : 2 ^ ts.length ≤ 32) (h0 : ∀ i, i < ts.length → tabL C (2 ^ i) = 0) : ∀ (q : Nat) (os : List (Int × Int)), os.length = q → okO (numL ts.length) (ts.length : Int) os →
    ∃ ns tj ms, LiveM hr dm U op ts os ns tj ms ∧ (ms.map (tabL C)).sum ≤ (costsT hr dm op (numL ts.length) (ts.length : Int) ts os os.length).sum
  | 0, os, hq, _ => by
    obtain rfl := List.length_eq_zero_iff.1 hq
    refine ⟨_, _, _, LiveM.start hN, ?_⟩
    have e : ∀ m, m ≤ ts.length → ((sings m).map (tabL C)).sum = 0 := by
      intro m
      induction m with
      | zero => intro _; rfl
      | succ m ih =>
        intro hm
        have : sings (m + 1) = sings m ++ [2 ^ m] := by simp [sings, List.range_succ]
        rw [this, List.map_append, List.sum_append, ih (by omega)]
        simp [h0 m (by omega)]
    rw [e _ (Nat.le_refl _)]
    simp [costsT]
  | q + 1, os, hq, hok => by
    obtain ⟨r, ⟨a, b⟩, rfl⟩ : ∃ r s, os = r ++ [s] := by
      rcases List.eq_nil_or_concat os with h | ⟨r, s, h⟩
      · subst h; simp at hq
      · exact ⟨r, s, by simpa using h⟩
    have hrl : r.length = q := by simp at hq; exact hq
    have hokr : okO (numL ts.length) (ts.length : Int) r := by have := okO_take hok r.length; rwa [List.take_left] at this
    obtain ⟨ns, tj, ms, hL, hc⟩ := cost_low hN hT hM h0 q r hrl hokr
    have hd := okN_drop hr dm op ts hok r.length
    rw [List.take_left, List.drop_left] at hd
    have hns : (runN hr dm op (numL ts.length) (ts.length : Int) ts r).1 = ns := by have := hL.ats.eqN; rwa [List.take_length] at this
    rw [hns] at hd
    obtain ⟨h1, h2, h3, _⟩ := hd
    obtain ⟨i, _, hi⟩ := find_nat h1
    obtain ⟨j, _, hj⟩ := find_nat h2
    simp only at hi hj h3
    have hil : i < ms.length := by rw [hL.len, ← hL.ats.len]; exact (List.getElem?_eq_some_iff.1 hi).1
    have hjl : j < ms.length := by rw [hL.len, ← hL.ats.len]; exact (List.getElem?_eq_some_iff.1 hj).1
    have hx := List.getElem?_eq_getElem hil
    have hy := List.getElem?_eq_getElem hjl
    have hij : i ≠ j := by
      rintro rfl
      rw [hi] at hj
      have := Option.some.inj hj
      omega
    obtain ⟨hS, hcs⟩ := hL.step hN hi hj h3 hx hy
    refine ⟨_, _, _, hS, ?_⟩
    have hpm := two_perm hij hx hy
    have hsum := sum_perm_int (hpm.map (tabL C))
    have hp1 := hL.pos _ (List.mem_of_getElem? hx)
    have hp2 := hL.pos _ (List.mem_of_getElem? hy)
    have hopt := hT.opt hM (valS_comm hN) hp1.1 hp2.1 (hL.apart_at hij hx hy) (Nat.or_lt_two_pow hp1.2 hp2.2)
    rw [hcs, List.map_append, List.sum_append]
    simp only [List.map_cons, List.sum_cons, List.map_nil, List.sum_nil] at hsum ⊢
    omega
theorem full_eq {s m : Nat} (h : ∀ q, q < m → s.testBit q = true) (hs : s < 2 ^ m) : s = 2 ^ m - 1 := by
  refine Nat.eq_of_testBit_eq fun i => ?_
  rw [Nat.testBit_two_pow_sub_one]
  by_cases hi : i < m
  · rw [h i hi]; simp [hi]
  · have : s.testBit i = false := Nat.testBit_lt_two_pow (Nat.lt_of_lt_of_le hs (Nat.pow_le_pow_right (by decide) (by omega)))
    rw [this]; simp [hi]
theorem LiveM.last (h : LiveM hr dm U op ts os ns tj ms) (h1 : ms.length = 1) : ms = [2 ^ ts.length - 1] := by
  obtain ⟨s, rfl⟩ := List.length_eq_one_iff.1 h1
  rw [← full_eq (fun q hq => ?_) (h.pos s (by simp)).2]
  obtain ⟨t, ht, hb⟩ := h.cover q hq
  simp at ht; subst ht; exact hb
theorem cost_ge (hN : IsN k p n dm U ts op) {C F : List Int} {a0 : Nat} (hT : TabT (valS dm ts op) (2 ^ ts.length) C F (2 ^ ts.length) a0) (hM : 2 ^ ts.length ≤ 32) (h0 : ∀ i, i < ts.length → tabL C (2 ^ i) = 0) (hz : tabL C 0 = 0) (hok : okO (numL ts.length) (ts.length : Int) os) (hol : os.length = ts.length - 1) :
    tabL C (2 ^ ts.length - 1) ≤ (costsT hr dm op (numL ts.length) (ts.length : Int) ts os os.length).sum := by
  obtain ⟨ns, tj, ms, hL, hc⟩ := cost_low (hr := hr) hN hT hM h0 _ os rfl hok
  have hleft := hL.ats.left
  by_cases e : ts.length = 0
  · have := (costs_sum (hr := hr) hok (numL_len _) hN os.length (Nat.le_refl _)).1
    have e0 : tabL C (2 ^ ts.length - 1) = 0 := by rw [e]; exact hz
    rw [e0]; exact this
  · have h1 : ms.length = 1 := by rw [hL.len]; omega
    rw [hL.last h1] at hc
    simpa using hc
theorem drop2_at {α β : Type} {l : List α} {l2 : List β} (hl : l.length = l2.length) {i j q : Nat} {c : α} {u : β} (h1 : l[q]? = some c) (h2 : l2[q]? = some u) (hqi : q ≠ i) (hqj : q ≠ j) : ∃ p : Nat, (drop2 l i j)[p]? = some c ∧ (drop2 l2 i j)[p]? = some u := by
  have e1 : (l.zip l2).map Prod.fst = l := List.map_fst_zip (by omega)
  have e2 : (l.zip l2).map Prod.snd = l2 := List.map_snd_zip (by omega)
  have hz : (l.zip l2)[q]? = some (c, u) := by rw [List.getElem?_zip_eq_some]; exact ⟨h1, h2⟩
  obtain ⟨p, hp⟩ := List.getElem?_of_mem (mem_drop2.2 ⟨q, fun e => e.elim hqi hqj, hz⟩ : (c, u) ∈ drop2 (l.zip l2) i j)
  refine ⟨p, ?_, ?_⟩
  · rw [← e1, drop2_map, List.getElem?_map, hp]; rfl
  · conv => lhs; rw [← e2, drop2_map, List.getElem?_map, hp]
    rfl
def bestG (F : List Int) (m : Nat) : Nat → Nat → Nat → List (Int × Int) × Int
  | 0, _, _ => ([], 0)
  | f + 1, s, q =>
    if tabL F s = 0 then ([], (s.log2 : Int)) else
      ((bestG F m f (tabL F s).toNat q).1 ++ (bestG F m f (s ^^^ (tabL F s).toNat) (q + (bestG F m f (tabL F s).toNat q).1.length)).1 ++ [(min (bestG F m f (tabL F s).toNat q).2 (bestG F m f (s ^^^ (tabL F s).toNat) (q + (bestG F m f (tabL F s).toNat q).1.length)).2, max (bestG F m f (tabL F s).toNat q).2 (bestG F m f (s ^^^ (tabL F s).toNat) (q + (bestG F m f (tabL F s).toNat q).1.length)).2)],
        (m : Int) + q + (bestG F m f (tabL F s).toNat q).1.length + (bestG F m f (s ^^^ (tabL F s).toNat) (q + (bestG F m f (tabL F s).toNat q).1.length)).1.length)
theorem tab_sing {C F : List Int} {val : Nat → Nat → Int} {M a0 : Nat} (hT : TabT val M C F M a0) (hM : M ≤ 32) {s : Nat} (h1 : 1 ≤ s) (hs : s < M) (hF : tabL F s = 0) : Sing s := by
  apply Classical.byContradiction
  intro hns
  have hP := hT.done hM h1 hs
  have hc := cut_some ⟨s, by omega⟩ (fun i e => hns (by simp only at e; rw [e]; exact sing_pow _)) h1
  exact (hP.le _ hc.2.2 hc.2.2 hc.1).1 hF
theorem best_steps (hN : IsN k p n dm U ts op) {C F : List Int} {a0 : Nat} (hT : TabT (valS dm ts op) (2 ^ ts.length) C F (2 ^ ts.length) a0) (hM : 2 ^ ts.length ≤ 32) : ∀ (f s : Nat) (os : List (Int × Int)) (ns : List Int) (tj : List (NT k p n)) (ms : List Nat), 1 ≤ s → s < 2 ^ ts.length → s ≤ f → LiveM hr dm U op ts os ns tj ms →
    (∀ e, s.testBit e = true → ∃ i : Nat, ns[i]? = some (e : Int) ∧ ms[i]? = some (2 ^ e)) →
    ∃ ns' tj' ms', LiveM hr dm U op ts (os ++ (bestG F ts.length f s os.length).1) ns' tj' ms' ∧ (∃ i : Nat, ns'[i]? = some (bestG F ts.length f s os.length).2 ∧ ms'[i]? = some s) ∧
      (∀ (i : Nat) (c : Int) (u : Nat), ns[i]? = some c → ms[i]? = some u → u &&& s = 0 → ∃ i' : Nat, ns'[i']? = some c ∧ ms'[i']? = some u) ∧
      (costsT hr dm op (numL ts.length) (ts.length : Int) ts (os ++ (bestG F ts.length f s os.length).1) (os ++ (bestG F ts.length f s os.length).1).length).sum = (costsT hr dm op (numL ts.length) (ts.length : Int) ts os os.length).sum + tabL C s
  | 0, s, os, ns, tj, ms, h1, _, hf, _, _ => by omega
  | f + 1, s, os, ns, tj, ms, h1, hs, hf, hL, hb => by
    have hP := hT.done hM h1 hs
    by_cases hF : tabL F s = 0
    · have hS := tab_sing hT hM h1 hs hF
      have e : bestG F ts.length (f + 1) s os.length = ([], (s.log2 : Int)) := by rw [bestG, if_pos hF]
      rw [e, List.append_nil, hP.none hF]
      refine ⟨ns, tj, ms, hL, ?_, fun i c u a b _ => ⟨i, a, b⟩, by omega⟩
      obtain ⟨i, a, b⟩ := hb s.log2 ((sing_bit hS).2 rfl)
      have hS2 : s = 2 ^ s.log2 := hS
      rw [← hS2] at b
      exact ⟨i, a, b⟩
    · obtain ⟨x, hx, hxs, hcut, hcost⟩ := hP.some hF
      obtain ⟨x1, _, y2, y1, _, hxy, hor⟩ := xor_lt32 (by omega) hxs hcut
      have hxn : (tabL F s).toNat = x := by rw [hx]; simp
      obtain ⟨y, hy⟩ : ∃ y, s ^^^ x = y := ⟨_, rfl⟩
      rw [hy] at y2 y1 hxy hor hcost
      have bx : ∀ e, x.testBit e = true → s.testBit e = true := fun e h => by rw [← hor, Nat.testBit_or, h]; rfl
      have byy : ∀ e, y.testBit e = true → s.testBit e = true := fun e h => by rw [← hor, Nat.testBit_or, h, Bool.or_true]
      obtain ⟨ns1, tj1, ms1, hL1, ⟨i1, hi1, hm1⟩, hk1, hc1⟩ := best_steps hN hT hM f x os ns tj ms x1 (by omega) (by omega) hL fun e he => hb e (bx e he)
      obtain ⟨A, hA⟩ : ∃ A, bestG F ts.length f x os.length = A := ⟨_, rfl⟩
      rw [hA] at hL1 hi1 hc1
      obtain ⟨ns2, tj2, ms2, hL2, ⟨i2, hi2, hm2⟩, hk2, hc2⟩ := best_steps hN hT hM f y (os ++ A.1) ns1 tj1 ms1 y1 (by omega) (by omega) hL1 fun e he => by
        obtain ⟨i, a, b⟩ := hb e (byy e he)
        refine hk1 i _ _ a b (and_zero_of fun q hq => ?_)
        rw [bit_pow.1 hq]
        exact and_zero_bit (by rw [Nat.and_comm]; exact hxy) he
      have hlen : (os ++ A.1).length = os.length + A.1.length := List.length_append
      obtain ⟨B, hB⟩ : ∃ B, bestG F ts.length f y (os ++ A.1).length = B := ⟨_, rfl⟩
      rw [hB] at hL2 hi2 hc2
      rw [hlen] at hB
      have e : bestG F ts.length (f + 1) s os.length = (A.1 ++ B.1 ++ [(min A.2 B.2, max A.2 B.2)], (ts.length : Int) + os.length + A.1.length + B.1.length) := by
        rw [bestG, if_neg hF, hxn, hy, hA, hB]
      obtain ⟨i1', hi1', hm1'⟩ := hk2 i1 _ _ hi1 hm1 hxy
      have hne : i1' ≠ i2 := by
        rintro rfl
        rw [hm1'] at hm2
        have := Option.some.inj hm2
        subst this
        rw [Nat.and_self] at hxy; omega
      have hnn : A.2 ≠ B.2 := fun e => hne (nodup_idx hL2.nod (by rw [e] at hi1'; exact hi1') hi2)
      have hnl : ns2.length = ms2.length := by rw [hL2.len, hL2.ats.len]
      have hnx : ((ts.length : Int) + ((os ++ A.1) ++ B.1).length) = (ts.length : Int) + os.length + A.1.length + B.1.length := by
        rw [List.length_append, List.length_append]; push_cast; omega
      rw [e]
      have fin : ∀ (i j : Nat) (a b : Int) (u v : Nat), ns2[i]? = some a → ns2[j]? = some b → a < b → ms2[i]? = some u → ms2[j]? = some v → (a, b) = (min A.2 B.2, max A.2 B.2) → u ||| v = s → u &&& v = 0 → 1 ≤ u → 1 ≤ v → valS dm ts op u v = valS dm ts op x y →
          ∃ ns' tj' ms', LiveM hr dm U op ts (os ++ (A.1 ++ B.1 ++ [(min A.2 B.2, max A.2 B.2)])) ns' tj' ms' ∧ (∃ i : Nat, ns'[i]? = some ((ts.length : Int) + os.length + A.1.length + B.1.length) ∧ ms'[i]? = some s) ∧
          (∀ (i : Nat) (c : Int) (u : Nat), ns[i]? = some c → ms[i]? = some u → u &&& s = 0 → ∃ i' : Nat, ns'[i']? = some c ∧ ms'[i']? = some u) ∧
          (costsT hr dm op (numL ts.length) (ts.length : Int) ts (os ++ (A.1 ++ B.1 ++ [(min A.2 B.2, max A.2 B.2)])) (os ++ (A.1 ++ B.1 ++ [(min A.2 B.2, max A.2 B.2)])).length).sum = (costsT hr dm op (numL ts.length) (ts.length : Int) ts os os.length).sum + tabL C s := by
        intro i j a b u v ha hbb hab hu hv hab2 huv huv0 hu1 hv1 hval
        obtain ⟨hS, hcs⟩ := hL2.step hN ha hbb hab hu hv
        rw [hab2] at hS hcs
        have ea : os ++ (A.1 ++ B.1 ++ [(min A.2 B.2, max A.2 B.2)]) = os ++ A.1 ++ B.1 ++ [(min A.2 B.2, max A.2 B.2)] := by simp only [List.append_assoc]
        rw [ea]
        rw [huv] at hS
        refine ⟨_, _, _, hS, ⟨(drop2 ns2 i j).length, ?_, ?_⟩, fun q c z hq hz hz0 => ?_, ?_⟩
        · rw [List.getElem?_append_right (Nat.le_refl _), Nat.sub_self, ← hnx]; rfl
        · rw [drop2_len2 hnl, List.getElem?_append_right (Nat.le_refl _), Nat.sub_self]; rfl
        · have zx : z &&& x = 0 := and_zero_of fun e he => eq_false_of_ne_true fun h => by
            have := and_zero_bit hz0 he
            rw [bx e h] at this; cases this
          have zy : z &&& y = 0 := and_zero_of fun e he => eq_false_of_ne_true fun h => by
            have := and_zero_bit hz0 he
            rw [byy e h] at this; cases this
          obtain ⟨q1, a1, b1⟩ := hk1 q c z hq hz zx
          obtain ⟨q2, a2, b2⟩ := hk2 q1 c z a1 b1 zy
          have zz : ∀ w : Nat, z = w → 1 ≤ w → (∀ e, w.testBit e = true → s.testBit e = true) → False := fun w hw h1 hws => by
            subst hw
            obtain ⟨e, he⟩ := bit_some h1
            have := and_zero_bit hz0 he
            rw [hws e he] at this; cases this
          have hqi : q2 ≠ i := by
            rintro rfl
            rw [hu] at b2
            exact zz u (Option.some.inj b2).symm hu1 fun e he => by rw [← huv, Nat.testBit_or, he]; rfl
          have hqj : q2 ≠ j := by
            rintro rfl
            rw [hv] at b2
            exact zz v (Option.some.inj b2).symm hv1 fun e he => by rw [← huv, Nat.testBit_or, he, Bool.or_true]
          obtain ⟨p, p1, p2⟩ := drop2_at hnl a2 b2 hqi hqj
          exact ⟨p, by rw [List.getElem?_append_left (List.getElem?_eq_some_iff.1 p1).1]; exact p1, by rw [List.getElem?_append_left (List.getElem?_eq_some_iff.1 p2).1]; exact p2⟩
        · rw [hcs, hc2, hc1, hcost, hval]; omega
      rcases Int.lt_or_gt_of_ne hnn with hlt | hgt
      · exact fin i1' i2 A.2 B.2 x y hi1' hi2 hlt hm1' hm2 (by rw [Int.min_eq_left (by omega), Int.max_eq_right (by omega)]) hor hxy x1 y1 rfl
      · exact fin i2 i1' B.2 A.2 y x hi2 hi1' hgt hm2 hm1' (by rw [Int.min_eq_right (by omega), Int.max_eq_left (by omega)]) (by rw [Nat.or_comm]; exact hor) (by rw [Nat.and_comm]; exact hxy) y1 x1 (valS_comm hN y x)
theorem best_order (hN : IsN k p n dm U ts op) {C F : List Int} {a0 : Nat} (hT : TabT (valS dm ts op) (2 ^ ts.length) C F (2 ^ ts.length) a0) (hM : 2 ^ ts.length ≤ 32) (h1 : 1 ≤ ts.length) {os : List (Int × Int)} (hos : (bestG F ts.length (2 ^ ts.length - 1) (2 ^ ts.length - 1) 0).1 = os) :
    okO (numL ts.length) (ts.length : Int) os ∧ os.length = ts.length - 1 ∧ (costsT hr dm op (numL ts.length) (ts.length : Int) ts os os.length).sum = tabL C (2 ^ ts.length - 1) := by
  have hp : 2 ^ 1 ≤ 2 ^ ts.length := Nat.pow_le_pow_right (by decide) h1
  obtain ⟨ns, tj, ms, hL, ⟨i, hi, hm⟩, _, hc⟩ := best_steps (hr := hr) hN hT hM (2 ^ ts.length - 1) (2 ^ ts.length - 1) [] _ _ _ (by omega) (by omega) (Nat.le_refl _) (LiveM.start hN) fun e he => by
    have hlt : e < ts.length := by
      rw [Nat.testBit_two_pow_sub_one, decide_eq_true_eq] at he; exact he
    exact ⟨e, numL_get hlt, sings_get hlt⟩
  rw [List.nil_append, List.length_nil, hos] at hL hc
  refine ⟨hL.ok, ?_, by rw [hc]; simp [costsT]⟩
  have hl := hL.len
  have hleft := hL.ats.left
  have h2 : ms.length = 1 := by
    have hil := (List.getElem?_eq_some_iff.1 hm).1
    apply Classical.byContradiction
    intro hne
    obtain ⟨j, hj, hji⟩ : ∃ j, j < ms.length ∧ j ≠ i := by
      by_cases e : i = 0
      · exact ⟨1, by omega, by omega⟩
      · exact ⟨0, by omega, fun h => e h.symm⟩
    have hmj := List.getElem?_eq_getElem hj
    have ha := hL.apart_at hji hmj hm
    have hpj := hL.pos _ (List.mem_of_getElem? hmj)
    obtain ⟨e, he⟩ := bit_some hpj.1
    have hf := and_zero_bit ha he
    have hlt : e < ts.length := by
      apply Classical.byContradiction
      intro hge
      have := Nat.testBit_lt_two_pow (Nat.lt_of_lt_of_le hpj.2 (Nat.pow_le_pow_right (by decide) (show ts.length ≤ e by omega)))
      rw [this] at he; cases he
    rw [Nat.testBit_two_pow_sub_one] at hf
    simp [hlt] at hf
  omega
theorem tab_size (hN : IsN k p n dm U ts op) {C F : List Int} {a0 : Nat} (hT : TabT (valS dm ts op) (2 ^ ts.length) C F (2 ^ ts.length) a0) (hM : 2 ^ ts.length ≤ 32) : ∀ (f s : Nat), s ≤ f → 1 ≤ s → s < 2 ^ ts.length → tabL F s ≠ 0 → ∀ (e : Nat) (t : NT k p n), s.testBit e = true → ts[e]? = some t → szL dm t.1 ≤ tabL C s
  | 0, s, hf, h1, _, _, _, _, _, _ => by omega
  | f + 1, s, hf, h1, hs, hF, e, t, he, ht => by
    obtain ⟨x, hx, hxs, hcut, hcost⟩ := (hT.done hM h1 hs).some hF
    obtain ⟨x1, _, y2, y1, _, hxy, hor⟩ := xor_lt32 (by omega) hxs hcut
    obtain ⟨y, hy⟩ : ∃ y, s ^^^ x = y := ⟨_, rfl⟩
    rw [hy] at y2 y1 hxy hor hcost
    have key : ∀ u v : Nat, 1 ≤ u → u < s → 1 ≤ v → u.testBit e = true → tabL C s = tabL C u + tabL C v + valS dm ts op u v → szL dm t.1 ≤ tabL C s := fun u v hu1 hus hv1 heu hcs => by
      have lu := (hT.low u hu1).1
      have lv := (hT.low v hv1).1
      have lw := (valS_ok hN u v).1
      by_cases hFu : tabL F u = 0
      · have hS := tab_sing hT hM hu1 (by omega) hFu
        have hS2 : u = 2 ^ u.log2 := hS
        have hel := (sing_bit hS).1 heu
        have hl : labS ts op u = t.1 := by
          rw [hS2, ← hel]; exact labS_sing ht
        have hv : szL dm t.1 ≤ valS dm ts op u v := by
          unfold valS
          rw [hl]
          have sJ := (hN.ten t (List.mem_of_getElem? ht)).sub.join (labS_sub hN v)
          have h2 := prod_keep hN.uni sJ t.1
          have h3 : szL dm t.1 = prodL ((keepL (joinL t.1 (labS ts op v)) t.1).map dm) := szL_same (hN.ten t (List.mem_of_getElem? ht)).sub.nodup (sJ.filter _).nodup fun z => by
            rw [mem_keepL, mem_joinL]
            exact ⟨fun h => ⟨.inl h, h⟩, fun h => h.2⟩
          rw [h3]; exact h2
        omega
      · have := tab_size hN hT hM f u (by omega) hu1 (by omega) hFu e t heu ht
        omega
    have he2 := he
    rw [← hor, Nat.testBit_or, Bool.or_eq_true] at he2
    rcases he2 with h | h
    · exact key x y x1 (by omega) y1 h hcost
    · exact key y x y1 (by omega) x1 h (by rw [hcost, valS_comm hN x y]; omega)
theorem bound_le (hN : IsN k p n dm U ts op) {C F : List Int} {a0 : Nat} (hT : TabT (valS dm ts op) (2 ^ ts.length) C F (2 ^ ts.length) a0) (hM : 2 ^ ts.length ≤ 32) (h2 : 2 ≤ ts.length) : maxT dm 0 ts ≤ tabL C (2 ^ ts.length - 1) := by
  have hp : 2 ^ 2 ≤ 2 ^ ts.length := Nat.pow_le_pow_right (by decide) h2
  have hF : tabL F (2 ^ ts.length - 1) ≠ 0 := fun hF => by
    have hS := tab_sing hT hM (s := 2 ^ ts.length - 1) (by omega) (by omega) hF
    have b0 := (sing_bit (i := 0) hS).1 (by rw [Nat.testBit_two_pow_sub_one]; simp; omega)
    have b1 := (sing_bit (i := 1) hS).1 (by rw [Nat.testBit_two_pow_sub_one]; simp; omega)
    omega
  have hlow := (hT.low (2 ^ ts.length - 1) (by omega)).1
  refine maxT_le ts 0 _ hlow fun t ht => ?_
  obtain ⟨e, he⟩ := List.getElem?_of_mem ht
  exact tab_size hN hT hM _ _ (Nat.le_refl _) (by omega) (by omega) hF e t (by rw [Nat.testBit_two_pow_sub_one]; simp [(List.getElem?_eq_some_iff.1 he).1]) he
end
end Go.Proofs.Ytpegckmagiaggaa
