/- ApplyHom: the program's and the reference's. -/
import Derived.Test.YtlmidcclcnehnaaHomA
import Derived.Test.YtlmidcclcnehnaaHomB
import Derived.Test.YtlmidcclcnehnaaHomsS
namespace Go.Proofs.Ytlmidcclcnehnaa
open Go.RowKit
set_option linter.unusedSimpArgs false
set_option linter.unusedVariables false

/-- What a valid homomorphism is, by its kind. -/
theorem homRaw_cases {fk fp fn tk tp tn hk ha : Int} (h : homRaw fk fp fn tk tp tn hk ha = true) :
    (hk = 1 ∧ fk = tk ∧ fp = tp ∧ fn = tn ∧ ha = 0) ∨ (hk = 2 ∧ (fk = 3 ∨ fk = 4) ∧ tk = 1 ∧ ha = 0) ∨ (hk = 3 ∧ fk = 6 ∧ tk = 1 ∧ 0 ≤ ha ∧ ha < fn) ∨ (hk = 4 ∧ fk = 5 ∧ tk = 1 ∧ 1 ≤ ha ∧ ha ≤ fp) ∨
    (hk = 5 ∧ fk = 7 ∧ tk = 2 ∧ fp = tp ∧ ha = 0) ∨ (hk = 6 ∧ fk = 8 ∧ tk = 2 ∧ fp = tp ∧ rootOk fp ha = true) ∨ (hk = 7 ∧ ha = 0 ∧ fk = tk ∧ (((fk = 3 ∨ fk = 4 ∨ fk = 5) ∧ tp ≤ fp) ∨ (fk = 7 ∧ tp = fp ∧ tn ≤ fn) ∨ (fk = 6 ∧ tn ≤ fn))) ∨
    (hk = 8 ∧ fk = 1 ∧ ha = 0 ∧ (tk = 4 ∨ tk = 5 ∨ tk = 6)) := by
  unfold homRaw at h
  by_cases e1 : hk = 1
  · rw [if_pos e1] at h; simp at h
    exact .inl ⟨e1, h.1.1.1, h.1.1.2, h.1.2, h.2⟩
  rw [if_neg e1] at h
  refine .inr ?_
  by_cases e2 : hk = 2
  · rw [if_pos e2] at h; simp at h
    exact .inl ⟨e2, h.1.1, h.1.2, h.2⟩
  rw [if_neg e2] at h
  refine .inr ?_
  by_cases e3 : hk = 3
  · rw [if_pos e3] at h; simp at h
    exact .inl ⟨e3, h.1.1.1, h.1.1.2, h.1.2, h.2⟩
  rw [if_neg e3] at h
  refine .inr ?_
  by_cases e4 : hk = 4
  · rw [if_pos e4] at h; simp at h
    exact .inl ⟨e4, h.1.1.1, h.1.1.2, h.1.2, h.2⟩
  rw [if_neg e4] at h
  refine .inr ?_
  by_cases e5 : hk = 5
  · rw [if_pos e5] at h; simp at h
    exact .inl ⟨e5, h.1.1.1, h.1.1.2, h.1.2, h.2⟩
  rw [if_neg e5] at h
  refine .inr ?_
  by_cases e6 : hk = 6
  · rw [if_pos e6] at h; simp at h
    exact .inl ⟨e6, h.1.1.1, h.1.1.2, h.1.2, h.2⟩
  rw [if_neg e6] at h
  refine .inr ?_
  by_cases e7 : hk = 7
  · rw [if_pos e7] at h
    unfold cutOk at h
    simp only [Bool.and_eq_true, beq_iff_eq] at h
    refine .inl ⟨e7, h.1, h.2.1, ?_⟩
    have h3 := h.2.2
    by_cases f1 : fk = 3 ∨ fk = 4 ∨ fk = 5
    · rw [if_pos f1] at h3; exact .inl ⟨f1, by simpa using h3⟩
    rw [if_neg f1] at h3
    by_cases f7 : fk = 7
    · rw [if_pos f7] at h3; simp at h3; exact .inr (.inl ⟨f7, h3.1, h3.2⟩)
    rw [if_neg f7] at h3
    by_cases f6 : fk = 6
    · rw [if_pos f6] at h3; exact .inr (.inr ⟨f6, by simpa using h3⟩)
    rw [if_neg f6] at h3; cases h3
  rw [if_neg e7] at h
  by_cases e8 : hk = 8
  · rw [if_pos e8] at h; simp at h
    refine .inr ⟨e8, h.1.1, h.1.2, ?_⟩
    have := h.2
    omega
  rw [if_neg e8] at h; cases h
theorem ring1_elem {p n : Int} (h : ringOk 1 p n = true) {x : List Int} (hx : rawOk 1 p n x = true) : ∃ a, x = [a] ∧ 0 ≤ a ∧ a ≤ 1 := by
  obtain ⟨a, rfl, ha⟩ := scalar_one (by omega) (by omega) hx
  exact ⟨a, rfl, by simpa [InTop, ringTop] using ha⟩
set_option maxHeartbeats 1000000 in
theorem rawHom_any (fk fp fn tk tp tn hk ha : Int) (vx : Value) (x : List Int) (w : World) (hr : ringOk fk fp fn = true) (hr2 : ringOk tk tp tn = true) (hh : homRaw fk fp fn tk tp tn hk ha = true) (hvx : IntS w vx x) (hx : rawOk fk fp fn x = true) :
    Calls Try.prog 98 #[ringV fk fp fn, ringV tk tp tn, homV hk ha, vx] w fun e w' => ∃ v, e = .returned v ∧ OwnI w' w.heap.size v (homL fk fp tk tp tn hk ha x) ∧ Ext w w' := by
  have hf := ringOk_fit hr2
  have hw := ringOk_wide hr2
  have hb := ringOk_bounds hr
  have hs := allTo_small (top := ringTop fk fp fn) (x := x) (by unfold rawOk at hx; simp at hx; exact hx.2) (top_small hr)
  obtain ⟨hl, hv⟩ := rawOk_iff.1 hx
  have hwx := ringOk_wide hr
  have hl6 : x.length ≤ 6 := by have := hwx.hi; omega
  rcases homRaw_cases hh with ⟨rfl, _⟩ | ⟨rfl, h2, _⟩ | ⟨rfl, rfl, rfl, h3, h4⟩ | ⟨rfl, rfl, rfl, h3, h4⟩ | ⟨rfl, rfl, _⟩ | ⟨rfl, rfl, rfl, rfl, h6⟩ | ⟨rfl, rfl, rfl, h7⟩ | ⟨rfl, rfl, rfl, h8⟩
  · exact rawHom_1 fk fp fn tk tp tn ha x vx w hl6 hvx
  · obtain ⟨a, rfl, hin⟩ := scalar_one (by omega) (by omega) hx
    have hsa := hs a (by simp)
    rcases h2 with rfl | rfl
    · by_cases hp : 0 < a
      · exact rawHom_2ay fp fn tk tp tn ha a vx w hp hvx
      · exact rawHom_2an fp fn tk tp tn ha a vx w (by omega) hvx
    · by_cases hp : 0 < a
      · exact rawHom_2by fp fn tk tp tn ha a vx w hp hvx
      · exact rawHom_2bn fp fn tk tp tn ha a vx w (by omega) hvx
  · obtain ⟨a, rfl, _⟩ := scalar_one (by omega) (by omega) hx
    have hsa := hs a (by simp)
    exact rawHom_3 6 fp fn 1 tp tn ha a vx w h3 (by omega) hsa.1 hsa.2 hvx
  · obtain ⟨a, rfl, _⟩ := scalar_one (by omega) (by omega) hx
    exact rawHom_4 5 fp fn 1 tp tn ha a vx w hvx
  · have : 0 < x.length := by have := hwx.lo; omega
    match x, this with
    | a :: t, _ => exact rawHom_5 7 fp fn tk tp tn ha a t vx w hvx
  · simp [rootOk] at h6
    refine rawHom_6 8 fp fn 2 fp tn ha x vx w h6.1.1 h6.1.2 hb.2.2.2 (by simp [ringWidth] at hl; omega) (fun v hm => ?_) hvx
    have := hv v hm
    have ht : ringTop 8 fp fn = fp - 1 := by simp [ringTop]
    omega
  · rcases h7 with ⟨h, _⟩ | ⟨rfl, rfl, h⟩ | ⟨rfl, h⟩
    · obtain ⟨a, rfl, _⟩ := scalar_one (by omega) (by omega) hx
      rcases h with rfl | rfl | rfl
      · exact rawHom_7c3 fp fn 3 tp tn 0 a vx w hvx
      · exact rawHom_7c4 fp fn 4 tp tn 0 a vx w hvx
      · exact rawHom_7c5 fp fn 5 tp tn 0 a vx w hvx
    · have e1 : ringWidth 7 fn = fn := by simp [ringWidth]
      have e2 : ringWidth 7 tn = tn := by simp [ringWidth]
      have := hw.lo
      exact rawHom_7a tp fn 7 tp tn 0 x vx w (by omega) hl6 hvx
    · obtain ⟨a, rfl, _⟩ := scalar_one (by omega) (by omega) hx
      have hsa := hs a (by simp)
      exact rawHom_7b fp fn 6 tp tn 0 a vx w hf rfl hsa.1 hsa.2 hvx
  · obtain ⟨a, rfl, h0, h1⟩ := ring1_elem hr hx
    by_cases hp : a = 1
    · exact rawHom_8y 1 fp fn tk tp tn 0 a vx w hw hf hp hvx
    · exact rawHom_8n 1 fp fn tk tp tn 0 a vx w hw hf hp hvx
set_option maxHeartbeats 1000000 in
theorem l03Map_any (fk fp fn tk tp tn hk ha : Int) (vx : Value) (x : List Int) (w : World) (hr : ringOk fk fp fn = true) (hr2 : ringOk tk tp tn = true) (hh : homRaw fk fp fn tk tp tn hk ha = true) (hvx : IntS w vx x) (hx : rawOk fk fp fn x = true) :
    Calls Try.prog 97 #[ringV fk fp fn, ringV tk tp tn, homV hk ha, vx] w fun e w' => ∃ v, e = .returned v ∧ OwnI w' w.heap.size v (homL fk fp tk tp tn hk ha x) ∧ Ext w w' := by
  have hf := ringOk_fit hr2
  have hw := ringOk_wide hr2
  have hb := ringOk_bounds hr
  have hs := allTo_small (top := ringTop fk fp fn) (x := x) (by unfold rawOk at hx; simp at hx; exact hx.2) (top_small hr)
  obtain ⟨hl, hv⟩ := rawOk_iff.1 hx
  have hwx := ringOk_wide hr
  have hl6 : x.length ≤ 6 := by have := hwx.hi; omega
  rcases homRaw_cases hh with ⟨rfl, _⟩ | ⟨rfl, h2, _⟩ | ⟨rfl, rfl, rfl, h3, h4⟩ | ⟨rfl, rfl, rfl, h3, h4⟩ | ⟨rfl, rfl, _⟩ | ⟨rfl, rfl, rfl, rfl, h6⟩ | ⟨rfl, rfl, rfl, h7⟩ | ⟨rfl, rfl, rfl, h8⟩
  · exact l03Map_1 fk fp fn tk tp tn ha x vx w hl6 hvx
  · obtain ⟨a, rfl, hin⟩ := scalar_one (by omega) (by omega) hx
    have hsa := hs a (by simp)
    rcases h2 with rfl | rfl
    · by_cases hp : 0 < a
      · exact l03Map_2ay fp fn tk tp tn ha a vx w hp hvx
      · exact l03Map_2an fp fn tk tp tn ha a vx w (by omega) hvx
    · by_cases hp : 0 < a
      · exact l03Map_2by fp fn tk tp tn ha a vx w hp hvx
      · exact l03Map_2bn fp fn tk tp tn ha a vx w (by omega) hvx
  · obtain ⟨a, rfl, _⟩ := scalar_one (by omega) (by omega) hx
    have hsa := hs a (by simp)
    exact l03Map_3 6 fp fn 1 tp tn ha a vx w h3 (by omega) hsa.1 hsa.2 hvx
  · obtain ⟨a, rfl, _⟩ := scalar_one (by omega) (by omega) hx
    exact l03Map_4 5 fp fn 1 tp tn ha a vx w hvx
  · have : 0 < x.length := by have := hwx.lo; omega
    match x, this with
    | a :: t, _ => exact l03Map_5 7 fp fn tk tp tn ha a t vx w hvx
  · simp [rootOk] at h6
    refine l03Map_6 8 fp fn 2 fp tn ha x vx w h6.1.1 h6.1.2 hb.2.2.2 (by simp [ringWidth] at hl; omega) (fun v hm => ?_) hvx
    have := hv v hm
    have ht : ringTop 8 fp fn = fp - 1 := by simp [ringTop]
    omega
  · rcases h7 with ⟨h, _⟩ | ⟨rfl, rfl, h⟩ | ⟨rfl, h⟩
    · obtain ⟨a, rfl, _⟩ := scalar_one (by omega) (by omega) hx
      rcases h with rfl | rfl | rfl
      · exact l03Map_7c3 fp fn 3 tp tn 0 a vx w hvx
      · exact l03Map_7c4 fp fn 4 tp tn 0 a vx w hvx
      · exact l03Map_7c5 fp fn 5 tp tn 0 a vx w hvx
    · have e1 : ringWidth 7 fn = fn := by simp [ringWidth]
      have e2 : ringWidth 7 tn = tn := by simp [ringWidth]
      have := hw.lo
      exact l03Map_7a tp fn 7 tp tn 0 x vx w (by omega) hl6 hvx
    · obtain ⟨a, rfl, _⟩ := scalar_one (by omega) (by omega) hx
      have hsa := hs a (by simp)
      exact l03Map_7b fp fn 6 tp tn 0 a vx w hf rfl hsa.1 hsa.2 hvx
  · obtain ⟨a, rfl, h0, h1⟩ := ring1_elem hr hx
    by_cases hp : a = 1
    · exact l03Map_8y 1 fp fn tk tp tn 0 a vx w hw hf hp hvx
    · exact l03Map_8n 1 fp fn tk tp tn 0 a vx w hw hf hp hvx

/-- 'ApplyHom' -/
def homOf (fk fp fn tk tp tn hk ha : Int) (x : List Int) : List Int := if homOk fk fp fn tk tp tn hk ha = true ∧ elemOk fk fp fn x = true then homL fk fp tk tp tn hk ha x else []
theorem homOf_yes {fk fp fn tk tp tn hk ha : Int} {x : List Int} (h : homOk fk fp fn tk tp tn hk ha = true) (hx : elemOk fk fp fn x = true) : homOf fk fp fn tk tp tn hk ha x = homL fk fp tk tp tn hk ha x := by simp [homOf, h, hx]
theorem homOf_no1 {fk fp fn tk tp tn hk ha : Int} {x : List Int} (h : homOk fk fp fn tk tp tn hk ha = false) : homOf fk fp fn tk tp tn hk ha x = [] := by simp [homOf, h]
theorem homOf_no2 {fk fp fn tk tp tn hk ha : Int} {x : List Int} (hx : elemOk fk fp fn x = false) : homOf fk fp fn tk tp tn hk ha x = [] := by simp [homOf, hx]
theorem homOk_parts {fk fp fn tk tp tn hk ha : Int} (h : homOk fk fp fn tk tp tn hk ha = true) : ringOk fk fp fn = true ∧ ringOk tk tp tn = true ∧ homRaw fk fp fn tk tp tn hk ha = true := by
  simp [homOk] at h; exact ⟨h.1.1, h.1.2, h.2⟩
set_option maxRecDepth 100000 in
set_option maxHeartbeats 1000000 in
theorem applyHom_impl (fk fp fn tk tp tn hk ha : Int) (vx : Value) (x : List Int) (w : World) (hvx : IntS w vx x) :
    Calls Try.prog 58 #[ringV fk fp fn, ringV tk tp tn, homV hk ha, vx] w fun e w' => ∃ v, e = .returned v ∧ OwnI w' w.heap.size v (homOf fk fp fn tk tp tn hk ha x) ∧ Ext w w' := by
  obtain ⟨ax, capx, rfl, hc1, hc2⟩ := hvx.val
  cases hh : homOk fk fp fn tk tp tn hk ha
  · rw [homOf_no1 hh]
    go_enter Try.func58, Try.ntmps58
    go_wp2_with fail
    refine (homOk_impl _ _ _ _ _ _ _ _ _).mono ?_; rintro e1 w1 ⟨rfl, h1⟩
    go_wp2
    go_ret
    exact ⟨_, rfl, OwnI.nil _ _, (by repeat' (first | (with_reducible exact Ext.refl _) | (with_reducible assumption) | (with_reducible apply Ext.alloc) | (with_reducible apply Ext.drew) | (with_reducible apply Ext.drewN) | (refine Ext.setAt ?_ (by omega) _ _) | (refine Ext.trans ?_ (by assumption))))⟩
  obtain ⟨hr, hr2, hw⟩ := homOk_parts hh
  cases hx : elemOk fk fp fn x
  · rw [homOf_no2 hx]
    go_enter Try.func58, Try.ntmps58
    go_wp2_with fail
    refine (homOk_impl _ _ _ _ _ _ _ _ _).mono ?_; rintro e1 w1 ⟨rfl, h1⟩; have s1 := h1.size; (try simp at s1); have t1_0 : w.heap.size < w1.heap.size := (by omega); have c1_0 := fun o => h1.cells (w.heap.size) o (by first | (simp; done) | (simp; omega) | omega); have t1_1 : w.heap.size + 1 < w1.heap.size := (by omega); have c1_1 := fun o => h1.cells (w.heap.size + 1) o (by first | (simp; done) | (simp; omega) | omega); have t1_2 : w.heap.size + 2 < w1.heap.size := (by omega); have c1_2 := fun o => h1.cells (w.heap.size + 2) o (by first | (simp; done) | (simp; omega) | omega); go_wp2_with fail
    refine (elemOk_impl _ _ _ _ x _ (hvx.ext (by repeat' (first | (with_reducible exact Ext.refl _) | (with_reducible assumption) | (with_reducible apply Ext.alloc) | (with_reducible apply Ext.drew) | (with_reducible apply Ext.drewN) | (refine Ext.setAt ?_ (by omega) _ _) | (refine Ext.trans ?_ (by assumption)))))).mono ?_; rintro e2 w2 ⟨rfl, h2⟩; have s2 := h2.size; (try simp at s2); have t2_0 : w.heap.size < w2.heap.size := (by omega); have c2_0 := fun o => h2.cells (w.heap.size) o (by first | (simp; done) | (simp; omega) | omega); have t2_1 : w.heap.size + 1 < w2.heap.size := (by omega); have c2_1 := fun o => h2.cells (w.heap.size + 1) o (by first | (simp; done) | (simp; omega) | omega); have t2_2 : w.heap.size + 2 < w2.heap.size := (by omega); have c2_2 := fun o => h2.cells (w.heap.size + 2) o (by first | (simp; done) | (simp; omega) | omega)
    go_wp2
    go_ret
    exact ⟨_, rfl, OwnI.nil _ _, (by repeat' (first | (with_reducible exact Ext.refl _) | (with_reducible assumption) | (with_reducible apply Ext.alloc) | (with_reducible apply Ext.drew) | (with_reducible apply Ext.drewN) | (refine Ext.setAt ?_ (by omega) _ _) | (refine Ext.trans ?_ (by assumption))))⟩
  · rw [homOf_yes hh hx]
    have rx : rawOk fk fp fn x = true := by rwa [elemOk_yes hr] at hx
    have HR := Lib.hid rx; clear rx
    go_enter Try.func58, Try.ntmps58
    go_wp2_with fail
    refine (homOk_impl _ _ _ _ _ _ _ _ _).mono ?_; rintro e1 w1 ⟨rfl, h1⟩; have s1 := h1.size; (try simp at s1); have t1_0 : w.heap.size < w1.heap.size := (by omega); have c1_0 := fun o => h1.cells (w.heap.size) o (by first | (simp; done) | (simp; omega) | omega); have t1_1 : w.heap.size + 1 < w1.heap.size := (by omega); have c1_1 := fun o => h1.cells (w.heap.size + 1) o (by first | (simp; done) | (simp; omega) | omega); have t1_2 : w.heap.size + 2 < w1.heap.size := (by omega); have c1_2 := fun o => h1.cells (w.heap.size + 2) o (by first | (simp; done) | (simp; omega) | omega); go_wp2_with fail
    refine (elemOk_impl _ _ _ _ x _ (hvx.ext (by repeat' (first | (with_reducible exact Ext.refl _) | (with_reducible assumption) | (with_reducible apply Ext.alloc) | (with_reducible apply Ext.drew) | (with_reducible apply Ext.drewN) | (refine Ext.setAt ?_ (by omega) _ _) | (refine Ext.trans ?_ (by assumption)))))).mono ?_; rintro e2 w2 ⟨rfl, h2⟩; have s2 := h2.size; (try simp at s2); have t2_0 : w.heap.size < w2.heap.size := (by omega); have c2_0 := fun o => h2.cells (w.heap.size) o (by first | (simp; done) | (simp; omega) | omega); have t2_1 : w.heap.size + 1 < w2.heap.size := (by omega); have c2_1 := fun o => h2.cells (w.heap.size + 1) o (by first | (simp; done) | (simp; omega) | omega); have t2_2 : w.heap.size + 2 < w2.heap.size := (by omega); have c2_2 := fun o => h2.cells (w.heap.size + 2) o (by first | (simp; done) | (simp; omega) | omega); go_wp2_with fail
    refine (rawHom_any _ _ _ _ _ _ _ _ _ x _ hr hr2 hw (hvx.ext (by repeat' (first | (with_reducible exact Ext.refl _) | (with_reducible assumption) | (with_reducible apply Ext.alloc) | (with_reducible apply Ext.drew) | (with_reducible apply Ext.drewN) | (refine Ext.setAt ?_ (by omega) _ _) | (refine Ext.trans ?_ (by assumption))))) HR.out).mono ?_; rintro e3 w3 ⟨v3, rfl, o3, h3⟩
    go_wp2
    go_ret
    exact ⟨_, rfl, o3.mono (by omega), (by repeat' (first | (with_reducible exact Ext.refl _) | (with_reducible assumption) | (with_reducible apply Ext.alloc) | (with_reducible apply Ext.drew) | (with_reducible apply Ext.drewN) | (refine Ext.setAt ?_ (by omega) _ _) | (refine Ext.trans ?_ (by assumption))))⟩
set_option maxRecDepth 100000 in
set_option maxHeartbeats 1000000 in
theorem applyHom_spec (fk fp fn tk tp tn hk ha : Int) (vx : Value) (x : List Int) (w : World) (hvx : IntS w vx x) :
    Calls Try.prog 56 #[ringV fk fp fn, ringV tk tp tn, homV hk ha, vx] w fun e w' => ∃ v, e = .returned v ∧ OwnI w' w.heap.size v (homOf fk fp fn tk tp tn hk ha x) ∧ Ext w w' := by
  obtain ⟨ax, capx, rfl, hc1, hc2⟩ := hvx.val
  cases hh : homOk fk fp fn tk tp tn hk ha
  · rw [homOf_no1 hh]
    go_enter Try.func56, Try.ntmps56
    go_wp2_with fail
    refine (homOk_spec _ _ _ _ _ _ _ _ _).mono ?_; rintro e1 w1 ⟨rfl, h1⟩
    go_wp2
    go_ret
    exact ⟨_, rfl, OwnI.nil _ _, (by repeat' (first | (with_reducible exact Ext.refl _) | (with_reducible assumption) | (with_reducible apply Ext.alloc) | (with_reducible apply Ext.drew) | (with_reducible apply Ext.drewN) | (refine Ext.setAt ?_ (by omega) _ _) | (refine Ext.trans ?_ (by assumption))))⟩
  obtain ⟨hr, hr2, hw⟩ := homOk_parts hh
  have hf := ringOk_fit hr
  cases hx : rawOk fk fp fn x
  · rw [homOf_no2 (by rw [elemOk_yes hr]; exact hx)]
    go_enter Try.func56, Try.ntmps56
    go_wp2_with fail
    refine (homOk_spec _ _ _ _ _ _ _ _ _).mono ?_; rintro e1 w1 ⟨rfl, h1⟩; have s1 := h1.size; (try simp at s1); have t1_0 : w.heap.size < w1.heap.size := (by omega); have c1_0 := fun o => h1.cells (w.heap.size) o (by first | (simp; done) | (simp; omega) | omega); have t1_1 : w.heap.size + 1 < w1.heap.size := (by omega); have c1_1 := fun o => h1.cells (w.heap.size + 1) o (by first | (simp; done) | (simp; omega) | omega); have t1_2 : w.heap.size + 2 < w1.heap.size := (by omega); have c1_2 := fun o => h1.cells (w.heap.size + 2) o (by first | (simp; done) | (simp; omega) | omega); go_wp2_with fail
    refine (l02Elem_any _ _ _ hf _ x _ (hvx.ext (by repeat' (first | (with_reducible exact Ext.refl _) | (with_reducible assumption) | (with_reducible apply Ext.alloc) | (with_reducible apply Ext.drew) | (with_reducible apply Ext.drewN) | (refine Ext.setAt ?_ (by omega) _ _) | (refine Ext.trans ?_ (by assumption)))))).mono ?_; rintro e2 w2 ⟨rfl, h2⟩; have s2 := h2.size; (try simp at s2); have t2_0 : w.heap.size < w2.heap.size := (by omega); have c2_0 := fun o => h2.cells (w.heap.size) o (by first | (simp; done) | (simp; omega) | omega); have t2_1 : w.heap.size + 1 < w2.heap.size := (by omega); have c2_1 := fun o => h2.cells (w.heap.size + 1) o (by first | (simp; done) | (simp; omega) | omega); have t2_2 : w.heap.size + 2 < w2.heap.size := (by omega); have c2_2 := fun o => h2.cells (w.heap.size + 2) o (by first | (simp; done) | (simp; omega) | omega)
    go_wp2
    go_ret
    exact ⟨_, rfl, OwnI.nil _ _, (by repeat' (first | (with_reducible exact Ext.refl _) | (with_reducible assumption) | (with_reducible apply Ext.alloc) | (with_reducible apply Ext.drew) | (with_reducible apply Ext.drewN) | (refine Ext.setAt ?_ (by omega) _ _) | (refine Ext.trans ?_ (by assumption))))⟩
  · rw [homOf_yes hh (by rw [elemOk_yes hr]; exact hx)]
    have HR := Lib.hid hx
    go_enter Try.func56, Try.ntmps56
    go_wp2_with fail
    refine (homOk_spec _ _ _ _ _ _ _ _ _).mono ?_; rintro e1 w1 ⟨rfl, h1⟩; have s1 := h1.size; (try simp at s1); have t1_0 : w.heap.size < w1.heap.size := (by omega); have c1_0 := fun o => h1.cells (w.heap.size) o (by first | (simp; done) | (simp; omega) | omega); have t1_1 : w.heap.size + 1 < w1.heap.size := (by omega); have c1_1 := fun o => h1.cells (w.heap.size + 1) o (by first | (simp; done) | (simp; omega) | omega); have t1_2 : w.heap.size + 2 < w1.heap.size := (by omega); have c1_2 := fun o => h1.cells (w.heap.size + 2) o (by first | (simp; done) | (simp; omega) | omega); go_wp2_with fail
    refine (l02Elem_any _ _ _ hf _ x _ (hvx.ext (by repeat' (first | (with_reducible exact Ext.refl _) | (with_reducible assumption) | (with_reducible apply Ext.alloc) | (with_reducible apply Ext.drew) | (with_reducible apply Ext.drewN) | (refine Ext.setAt ?_ (by omega) _ _) | (refine Ext.trans ?_ (by assumption)))))).mono ?_; rintro e2 w2 ⟨rfl, h2⟩; have s2 := h2.size; (try simp at s2); have t2_0 : w.heap.size < w2.heap.size := (by omega); have c2_0 := fun o => h2.cells (w.heap.size) o (by first | (simp; done) | (simp; omega) | omega); have t2_1 : w.heap.size + 1 < w2.heap.size := (by omega); have c2_1 := fun o => h2.cells (w.heap.size + 1) o (by first | (simp; done) | (simp; omega) | omega); have t2_2 : w.heap.size + 2 < w2.heap.size := (by omega); have c2_2 := fun o => h2.cells (w.heap.size + 2) o (by first | (simp; done) | (simp; omega) | omega); go_wp2_with fail
    refine (l03Map_any _ _ _ _ _ _ _ _ _ x _ hr hr2 hw (hvx.ext (by repeat' (first | (with_reducible exact Ext.refl _) | (with_reducible assumption) | (with_reducible apply Ext.alloc) | (with_reducible apply Ext.drew) | (with_reducible apply Ext.drewN) | (refine Ext.setAt ?_ (by omega) _ _) | (refine Ext.trans ?_ (by assumption))))) HR.out).mono ?_; rintro e3 w3 ⟨v3, rfl, o3, h3⟩
    go_wp2
    go_ret
    exact ⟨_, rfl, o3.mono (by omega), (by repeat' (first | (with_reducible exact Ext.refl _) | (with_reducible assumption) | (with_reducible apply Ext.alloc) | (with_reducible apply Ext.drew) | (with_reducible apply Ext.drewN) | (refine Ext.setAt ?_ (by omega) _ _) | (refine Ext.trans ?_ (by assumption))))⟩
theorem homOf_short (fk fp fn tk tp tn hk ha : Int) (x : List Int) : (homOf fk fp fn tk tp tn hk ha x).length ≤ 6 := by
  unfold homOf
  split
  · rename_i h
    obtain ⟨hr, hr2, hw⟩ := homOk_parts h.1
    have hl := (elemOk_len h.2).2
    have h2 := ringOk_wide hr2
    have h3 := h2.hi
    have z1 : (oneL tk tp tn).length ≤ 6 := by rw [oneL_length]; omega
    have z2 : (zeroL tk tp tn).length ≤ 6 := by rw [zeroL_length]; omega
    unfold homL
    repeat' split
    all_goals first | omega | (simp [boolL]; done) | (simp; omega)
  · simp
end Go.Proofs.Ytlmidcclcnehnaa
