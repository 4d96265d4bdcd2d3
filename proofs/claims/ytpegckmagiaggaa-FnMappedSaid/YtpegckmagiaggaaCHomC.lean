/- ApplyHom: the program's and the reference's. -/
import Derived.Test.YtpegckmagiaggaaCBase
import Derived.Test.YtpegckmagiaggaaCHomA
import Derived.Test.YtpegckmagiaggaaCMulsS
namespace Go.Proofs.Ytpegckmagiaggaa
open Go.RowKit
set_option linter.unusedSimpArgs false
set_option linter.unusedVariables false

/-- What a valid homomorphism is, by its kind. -/
theorem homRaw_cases {fk fp fn tk tp tn hk ha : Int} (h : homRaw fk fp fn tk tp tn hk ha = true) :
    (hk = 1 ∧ fk = tk ∧ fp = tp ∧ fn = tn ∧ ha = 0) ∨ (hk = 2 ∧ (fk = 3 ∨ fk = 4) ∧ tk = 1 ∧ ha = 0) ∨ (hk = 3 ∧ fk = 6 ∧ tk = 1 ∧ 0 ≤ ha ∧ ha < fn) ∨ (hk = 4 ∧ fk = 5 ∧ tk = 1 ∧ 1 ≤ ha ∧ ha ≤ fp) ∨
    (hk = 5 ∧ fk = 7 ∧ tk = 2 ∧ fp = tp ∧ ha = 0) ∨ (hk = 6 ∧ fk = 8 ∧ tk = 2 ∧ fp = tp ∧ rootOk fp ha = true) ∨ (hk = 7 ∧ ha = 0 ∧ fk = tk ∧ (((fk = 3 ∨ fk = 4 ∨ fk = 5) ∧ tp ≤ fp) ∨ (fk = 7 ∧ tp = fp ∧ tn ≤ fn) ∨ (fk = 6 ∧ tn ≤ fn))) ∨
    (hk = 8 ∧ fk = 1 ∧ ha = 0 ∧ (tk = 4 ∨ tk = 5 ∨ tk = 6)) := by
  unfold homRaw at h
  by_cases e1 : hk = 1
  · rw [if_pos e1] at h; simp at h
    exact .inl ⟨e1, h.1.1.1, h.1.1.2, h.1.2, h.2⟩
  rw [if_neg e1] at h
  refine .inr ?_
  by_cases e2 : hk = 2
  · rw [if_pos e2] at h; simp at h
    exact .inl ⟨e2, h.1.1, h.1.2, h.2⟩
  rw [if_neg e2] at h
  refine .inr ?_
  by_cases e3 : hk = 3
  · rw [if_pos e3] at h; simp at h
    exact .inl ⟨e3, h.1.1.1, h.1.1.2, h.1.2, h.2⟩
  rw [if_neg e3] at h
  refine .inr ?_
  by_cases e4 : hk = 4
  · rw [if_pos e4] at h; simp at h
    exact .inl ⟨e4, h.1.1.1, h.1.1.2, h.1.2, h.2⟩
  rw [if_neg e4] at h
  refine .inr ?_
  by_cases e5 : hk = 5
  · rw [if_pos e5] at h; simp at h
    exact .inl ⟨e5, h.1.1.1, h.1.1.2, h.1.2, h.2⟩
  rw [if_neg e5] at h
  refine .inr ?_
  by_cases e6 : hk = 6
  · rw [if_pos e6] at h; simp at h
    exact .inl ⟨e6, h.1.1.1, h.1.1.2, h.1.2, h.2⟩
  rw [if_neg e6] at h
  refine .inr ?_
  by_cases e7 : hk = 7
  · rw [if_pos e7] at h
    unfold cutOk at h
    simp only [Bool.and_eq_true, beq_iff_eq] at h
    refine .inl ⟨e7, h.1, h.2.1, ?_⟩
    have h3 := h.2.2
    by_cases f1 : fk = 3 ∨ fk = 4 ∨ fk = 5
    · rw [if_pos f1] at h3; exact .inl ⟨f1, by simpa using h3⟩
    rw [if_neg f1] at h3
    by_cases f7 : fk = 7
    · rw [if_pos f7] at h3; simp at h3; exact .inr (.inl ⟨f7, h3.1, h3.2⟩)
    rw [if_neg f7] at h3
    by_cases f6 : fk = 6
    · rw [if_pos f6] at h3; exact .inr (.inr ⟨f6, by simpa using h3⟩)
    rw [if_neg f6] at h3; cases h3
  rw [if_neg e7] at h
  by_cases e8 : hk = 8
  · rw [if_pos e8] at h; simp at h
    refine .inr ⟨e8, h.1.1, h.1.2, ?_⟩
    have := h.2
    omega
  rw [if_neg e8] at h; cases h
theorem ring1_elem {p n : Int} (h : ringOk 1 p n = true) {x : List Int} (hx : rawOk 1 p n x = true) : ∃ a, x = [a] ∧ 0 ≤ a ∧ a ≤ 1 := by
  obtain ⟨a, rfl, ha⟩ := scalar_one (by omega) (by omega) hx
  exact ⟨a, rfl, by simpa [InTop, ringTop] using ha⟩
set_option maxHeartbeats 1000000 in
theorem rawHom_any (fk fp fn tk tp tn hk ha : Int) (vx : Value) (x : List Int) (w : World) (hr : ringOk fk fp fn = true) (hr2 : ringOk tk tp tn = true) (hh : homRaw fk fp fn tk tp tn hk ha = true) (hvx : IntS w vx x) (hx : rawOk fk fp fn x = true) :
    Calls Try.prog 118 #[ringV fk fp fn, ringV tk tp tn, homV hk ha, vx] w fun e w' => ∃ v, e = .returned v ∧ OwnI w' w.heap.size v (homL fk fp tk tp tn hk ha x) ∧ Ext w w' := by
  have hf := ringOk_fit hr2
  have hw := ringOk_wide hr2
  have hb := ringOk_bounds hr
  have hs := allTo_small (top := ringTop fk fp fn) (x := x) (by unfold rawOk at hx; simp at hx; exact hx.2) (top_small hr)
  obtain ⟨hl, hv⟩ := rawOk_iff.1 hx
  have hwx := ringOk_wide hr
  have hl6 : x.length ≤ 6 := by have := hwx.hi; omega
  rcases homRaw_cases hh with ⟨rfl, _⟩ | ⟨rfl, h2, _⟩ | ⟨rfl, rfl, rfl, h3, h4⟩ | ⟨rfl, rfl, rfl, h3, h4⟩ | ⟨rfl, rfl, _⟩ | ⟨rfl, rfl, rfl, rfl, h6⟩ | ⟨rfl, rfl, rfl, h7⟩ | ⟨rfl, rfl, rfl, h8⟩
  · exact rawHom_1 fk fp fn tk tp tn ha x vx w hl6 hvx
  · obtain ⟨a, rfl, hin⟩ := scalar_one (by omega) (by omega) hx
    have hsa := hs a (by simp)
    rcases h2 with rfl | rfl
    · by_cases hp : 0 < a
      · exact rawHom_2ay fp fn tk tp tn ha a vx w hp hvx
      · exact rawHom_2an fp fn tk tp tn ha a vx w (by omega) hvx
    · by_cases hp : 0 < a
      · exact rawHom_2by fp fn tk tp tn ha a vx w hp hvx
      · exact rawHom_2bn fp fn tk tp tn ha a vx w (by omega) hvx
  · obtain ⟨a, rfl, _⟩ := scalar_one (by omega) (by omega) hx
    have hsa := hs a (by simp)
    exact rawHom_3 6 fp fn 1 tp tn ha a vx w h3 (by omega) hsa.1 hsa.2 hvx
  · obtain ⟨a, rfl, _⟩ := scalar_one (by omega) (by omega) hx
    exact rawHom_4 5 fp fn 1 tp tn ha a vx w hvx
  · have : 0 < x.length := by have := hwx.lo; omega
    match x, this with
    | a :: t, _ => exact rawHom_5 7 fp fn tk tp tn ha a t vx w hvx
  · simp [rootOk] at h6
    refine rawHom_6 8 fp fn 2 fp tn ha x vx w h6.1.1 h6.1.2 hb.2.2.2 (by simp [ringWidth] at hl; omega) (fun v hm => ?_) hvx
    have := hv v hm
    have ht : ringTop 8 fp fn = fp - 1 := by simp [ringTop]
    omega
  · rcases h7 with ⟨h, _⟩ | ⟨rfl, rfl, h⟩ | ⟨rfl, h⟩
    · obtain ⟨a, rfl, _⟩ := scalar_one (by omega) (by omega) hx
      rcases h with rfl | rfl | rfl
      · exact rawHom_7c3 fp fn 3 tp tn 0 a vx w hvx
      · exact rawHom_7c4 fp fn 4 tp tn 0 a vx w hvx
      · exact rawHom_7c5 fp fn 5 tp tn 0 a vx w hvx
    · have e1 : ringWidth 7 fn = fn := by simp [ringWidth]
      have e2 : ringWidth 7 tn = tn := by simp [ringWidth]
      have := hw.lo
      exact rawHom_7a tp fn 7 tp tn 0 x vx w (by omega) hl6 hvx
    · obtain ⟨a, rfl, _⟩ := scalar_one (by omega) (by omega) hx
      have hsa := hs a (by simp)
      exact rawHom_7b fp fn 6 tp tn 0 a vx w hf rfl hsa.1 hsa.2 hvx
  · obtain ⟨a, rfl, h0, h1⟩ := ring1_elem hr hx
    by_cases hp : a = 1
    · exact rawHom_8y 1 fp fn tk tp tn 0 a vx w hw hf hp hvx
    · exact rawHom_8n 1 fp fn tk tp tn 0 a vx w hw hf hp hvx
theorem homOk_parts {fk fp fn tk tp tn hk ha : Int} (h : homOk fk fp fn tk tp tn hk ha = true) : ringOk fk fp fn = true ∧ ringOk tk tp tn = true ∧ homRaw fk fp fn tk tp tn hk ha = true := by
  simp [homOk] at h; exact ⟨h.1.1, h.1.2, h.2⟩
end Go.Proofs.Ytpegckmagiaggaa
