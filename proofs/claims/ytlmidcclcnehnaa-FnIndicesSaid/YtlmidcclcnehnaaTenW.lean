/- Tensors of the program: IndexAt, OffsetOf, ElemAt, SetElem; the laws' same. -/
import Derived.Test.YtlmidcclcnehnaaTokW
import Derived.Test.YtlmidcclcnehnaaPush
import Derived.Test.YtlmidcclcnehnaaDrawT
namespace Go.Proofs.Ytlmidcclcnehnaa
open Go.RowKit
set_option linter.unusedSimpArgs false
set_option linter.unusedVariables false

/-! ### indices -/
theorem idxL_step {D : List Int} {n : Int} {j : Nat} {d : Int} (hd : D.drop j = d :: D.drop (j + 1)) : idxL (D.drop j) n = (n / prodL (D.drop (j + 1))) % d :: idxL (D.drop (j + 1)) n := by rw [hd, idxL]
theorem div_step {D : List Int} {n : Int} {j : Nat} {d : Int} (h0 : 0 ≤ prodL (D.drop (j + 1))) (hd : D.drop j = d :: D.drop (j + 1)) : n / prodL (D.drop j) = n / prodL (D.drop (j + 1)) / d := by
  rw [hd, prodL_cons, Int.mul_comm, Int.ediv_ediv_of_nonneg h0]
theorem zeros_set (j : Nat) (x : Int) (R : List Int) : (List.replicate (j + 1) 0 ++ R).set j x = List.replicate j 0 ++ (x :: R) := by
  rw [List.replicate_succ', List.append_assoc, List.set_append_right _ _ (by simp)]
  simp
set_option maxHeartbeats 1000000 in
theorem indexIn_any (vD : Value) (D : List Int) (n : Int) (w : World) (hD : IntS w vD D) (hd : ∀ d ∈ D, 1 ≤ d ∧ d ≤ 8) (hl : D.length ≤ 12) (h0 : 0 ≤ n) (h1 : n ≤ 1048576) : Calls Try.prog 91 #[vD, .int .i64 n] w fun e w' =>
    ∃ v, e = .returned v ∧ OwnI w' w.heap.size v (idxL D n) ∧ Ext w w' := by
  obtain ⟨a, cap, rfl, hc1, hc2⟩ := hD.val
  have hmk := mkInts D.length (by omega)
  have HD := Lib.hid hd; clear hd
  go_enter Try.func91, Try.ntmps91
  go_wp2_with fail
  go_loopw [1, 6] (fun q i wr => ∃ (j : Nat) (c : Int), j ≤ D.length ∧ i = .int .i64 ((j : Int) - 1) ∧ q = .int .i64 c ∧ 0 ≤ c ∧ c ≤ 1048576 ∧ n / prodL (D.drop j) = c ∧ Blk wr w.heap.size 3 (ints (List.replicate j 0 ++ idxL (D.drop j) n)) ∧ Ext w wr) (fun q i wr => (intOf i + 1).toNat)
  case atStart =>
    refine ⟨D.length, n, Nat.le_refl _, rfl, rfl, h0, h1, by rw [drop_len]; simp [prodL], ?_, (by repeat' (first | (with_reducible exact Ext.refl _) | (with_reducible assumption) | (with_reducible apply Ext.alloc) | (with_reducible apply Ext.drew) | (with_reducible apply Ext.drewN) | (refine Ext.setAt ?_ (by omega) _ _) | (refine Ext.trans ?_ (by assumption))))⟩
    rw [drop_len, idxL, List.append_nil]
    exact blk_made w _ _ rfl
  case round =>
    obtain ⟨j, c, hj, rfl, rfl, hc0, hc3, hcc, hB, hE⟩ := hrel
    have HC := Lib.hid hcc; clear hcc
    rcases Nat.eq_zero_or_pos j with rfl | hjp
    · go_wp2
      go_ret
      rw [List.drop_zero, List.replicate_zero, List.nil_append] at hB
      exact ⟨_, rfl, OwnI.mk' (by rw [idxL_length]) (Nat.le_refl _) hB (by unfold maxLen; omega), hE⟩
    · obtain ⟨j, rfl⟩ : ∃ i, j = i + 1 := ⟨j - 1, by omega⟩
      obtain ⟨b, off, d, rfl, hcell0, hy, hdr⟩ := hD.get (i := j) (by omega)
      have hbl := World.block_lt_of_cell? w _ hcell0
      have hcell := hE.cell hcell0
      have hbne : b ≠ w.heap.size := by simp at hbl; omega
      clear hcell0
      obtain ⟨d0, d1⟩ := HD.out d (List.mem_of_getElem? hy)
      have hP := prodL_pos (D := D.drop (j + 1)) fun x hx => HD.out x (List.mem_of_mem_drop hx)
      have hs1 := idxL_step (n := n) hdr
      have hs2 := div_step (n := n) (by omega) hdr
      rw [HC.out] at hs1 hs2
      have ho := hB.cell (j := j) (u := .int .i64 0) (by rw [ints_get, List.getElem?_append_left (by simp), rep_get _ (by omega)]; rfl)
      have hfz := hB.free j
      have r0 := Int.emod_nonneg c (show d ≠ 0 by omega)
      have r1 := Int.emod_lt_of_pos c (show 0 < d by omega)
      have q0 := Int.ediv_nonneg hc0 (show 0 ≤ d by omega)
      have q1 : c / d ≤ c := Int.ediv_le_self _ hc0
      have H1 := Lib.hid hs1; have H2 := Lib.hid hs2
      have e1 : (((j + 1 : Nat) : Int) - 1) = (j : Int) := by omega
      rw [e1]
      have hjl : j < D.length := by omega
      have hjc : j < cap := by omega
      clear hs1 hs2 hy hdr e1 hP
      go_wp2
      go_roundw
      case rel =>
        refine ⟨j, c / d, by omega, rfl, rfl, q0, by omega, H2.out, ?_, hE.setCell (Nat.le_refl _) _⟩
        rw [H1.out, ← zeros_set, ← ints_set]
        exact Blk.set hB _ _
      case measure => simp [intOf] <;> omega
theorem indexAt_yes (v : Value) (L D X : List Int) (n : Int) (w : World) (hv : TenS w v L D X) (ax : AxOk L D) (h0 : 0 ≤ n) (h1 : n < prodL D) : Calls Try.prog 51 #[v, .int .i64 n] w fun e w' =>
    ∃ u, e = .returned (.tuple #[u, .bool true]) ∧ OwnI w' w.heap.size u (idxL D n) ∧ Ext w w' := by
  have hv0 := hv
  obtain ⟨p1, n1, c1, p2, n2, c2, p3, n3, c3, rfl⟩ := hv.shape
  obtain ⟨_, _, _, hvv, hL, hD, hX⟩ := hv.val
  simp at hvv
  obtain ⟨rfl, rfl, rfl⟩ := hvv
  obtain ⟨s, hse⟩ : ∃ s, prodL D = s := ⟨_, rfl⟩
  have hts : tsize L D = s := by rw [ax.tsize, hse]
  have hs1 := ax.size
  have hln := ax.len
  have hrk := ax.rank
  have hdl : D.length ≤ 12 := by omega
  rw [hse] at hs1 h1
  have hsne : (s == -1) = false := by rw [beq_eq_false_iff_ne]; omega
  have HTS := Lib.hid hts; have AX := Lib.hid ax
  clear hse hts hv ax hln
  go_enter Try.func51, Try.ntmps51
  go_wp2_with fail
  refine (tensorSize_impl _ L D X _ (hv0.ext (by repeat' (first | (with_reducible exact Ext.refl _) | (with_reducible assumption) | (with_reducible apply Ext.alloc) | (with_reducible apply Ext.drew) | (with_reducible apply Ext.drewN) | (refine Ext.setAt ?_ (by omega) _ _) | (refine Ext.trans ?_ (by assumption)))))).mono ?_; rintro e2 w2 ⟨rfl, h2⟩; rw [HTS.out]; have s2 := h2.size; (try simp at s2); have t2_0 : w.heap.size < w2.heap.size := (by omega); have c2_0 := fun o => h2.cells (w.heap.size) o (by first | (simp; done) | (simp; omega) | omega)
  go_wp2_with fail
  refine (indexIn_any _ D n _ (hD.ext (by repeat' (first | (with_reducible exact Ext.refl _) | (with_reducible assumption) | (with_reducible apply Ext.alloc) | (with_reducible apply Ext.drew) | (with_reducible apply Ext.drewN) | (refine Ext.setAt ?_ (by omega) _ _) | (refine Ext.trans ?_ (by assumption))))) AX.out.dims hdl h0 (by omega)).mono ?_; rintro e3 w3 ⟨v3, rfl, o3, h3⟩
  go_wp2
  go_ret2
  exact ⟨_, rfl, o3.mono (by have := h2.size; simp at this; omega), (by repeat' (first | (with_reducible exact Ext.refl _) | (with_reducible assumption) | (with_reducible apply Ext.alloc) | (with_reducible apply Ext.drew) | (with_reducible apply Ext.drewN) | (refine Ext.setAt ?_ (by omega) _ _) | (refine Ext.trans ?_ (by assumption))))⟩
theorem indexAt_no (v : Value) (L D X : List Int) (n : Int) (w : World) (hv : TenS w v L D X) (ax : AxOk L D) (h0 : 0 ≤ n) (h1 : prodL D ≤ n) : Calls Try.prog 51 #[v, .int .i64 n] w fun e w' =>
    e = .returned (.tuple #[.slice none 0 0, .bool false]) ∧ Ext w w' := by
  have hv0 := hv
  obtain ⟨p1, n1, c1, p2, n2, c2, p3, n3, c3, rfl⟩ := hv.shape
  obtain ⟨s, hse⟩ : ∃ s, prodL D = s := ⟨_, rfl⟩
  have hts : tsize L D = s := by rw [ax.tsize, hse]
  have hs2 := ax.pos
  rw [hse] at hs2 h1
  have hsne : (s == -1) = false := by rw [beq_eq_false_iff_ne]; omega
  have HTS := Lib.hid hts
  clear hse hts hv ax
  go_enter Try.func51, Try.ntmps51
  go_wp2_with fail
  refine (tensorSize_impl _ L D X _ (hv0.ext (by repeat' (first | (with_reducible exact Ext.refl _) | (with_reducible assumption) | (with_reducible apply Ext.alloc) | (with_reducible apply Ext.drew) | (with_reducible apply Ext.drewN) | (refine Ext.setAt ?_ (by omega) _ _) | (refine Ext.trans ?_ (by assumption)))))).mono ?_; rintro e2 w2 ⟨rfl, h2⟩; rw [HTS.out]
  go_wp2
  go_ret2
  exact ⟨rfl, (by repeat' (first | (with_reducible exact Ext.refl _) | (with_reducible assumption) | (with_reducible apply Ext.alloc) | (with_reducible apply Ext.drew) | (with_reducible apply Ext.drewN) | (refine Ext.setAt ?_ (by omega) _ _) | (refine Ext.trans ?_ (by assumption))))⟩
theorem indexOk_yes (vD vI : Value) (D I : List Int) (w : World) (hD : IntS w vD D) (hI : IntS w vI I) (hok : idxOk D I = true) (hd : ∀ d ∈ D, 1 ≤ d ∧ d ≤ 8) : Calls Try.prog 92 #[vD, vI] w fun e w' =>
    e = .returned (.bool true) ∧ w = w' := by
  obtain ⟨a, cap, rfl, hc1, hc2⟩ := hD.val
  obtain ⟨a2, cap2, rfl, hc3, hc4⟩ := hI.val
  have hlen := idxOk_len hok
  have hne : ((I.length : Int) != (D.length : Int)) = false := by rw [bne_eq_false_iff_eq]; omega
  have HL := Lib.hid hlen; have HK := Lib.hid hok; have HD := Lib.hid hd
  clear hlen hok hd
  go_enter Try.func92, Try.ntmps92
  go_wp2_with fail
  go_loop [14] (fun i => ∃ j : Nat, j ≤ I.length ∧ i = .int .i64 j ∧ idxOk (D.drop j) (I.drop j) = true) (fun i => I.length - (intOf i).toNat)
  case atStart => exact ⟨0, Nat.zero_le _, rfl, HK.out⟩
  case round =>
    obtain ⟨j, hj, rfl, hok⟩ := hrel
    by_cases hlt : j < I.length
    · obtain ⟨b, off, y, rfl, hcell, _, hdr⟩ := hI.get hlt
      obtain ⟨b2, off2, z, rfl, hcell2, hz, hdr2⟩ := hD.get (i := j) (by have := HL.out; omega)
      rw [hdr, hdr2] at hok
      obtain ⟨y0, y1, h3⟩ := idxOk_cons hok
      have H3 := Lib.hid h3
      have hjl : j < D.length := by have := HL.out; omega
      clear h3 hok hdr hdr2 hz
      go_wp2
      go_round
      case rel => exact ⟨j + 1, by omega, by go_num, H3.out⟩
      case measure => simp [intOf]; omega
    · have : j = I.length := by omega
      subst this
      go_wp2
      go_ret
      exact ⟨rfl, rfl⟩
theorem offsetOf_yes (v vI : Value) (L D X I : List Int) (w : World) (hv : TenS w v L D X) (hI : IntS w vI I) (ax : AxOk L D) (hok : idxOk D I = true) : Calls Try.prog 53 #[v, vI] w fun e w' =>
    e = .returned (.int .i64 (offL D I)) ∧ Ext w w' := by
  have hv0 := hv
  obtain ⟨p1, n1, c1, p2, n2, c2, p3, n3, c3, rfl⟩ := hv.shape
  obtain ⟨_, _, _, hvv, hL, hD, hX⟩ := hv.val
  simp at hvv
  obtain ⟨rfl, rfl, rfl⟩ := hvv
  obtain ⟨s, hse⟩ : ∃ s, prodL D = s := ⟨_, rfl⟩
  have hts : tsize L D = s := by rw [ax.tsize, hse]
  have hs2 := ax.pos
  rw [hse] at hs2
  have hsne : (s == -1) = false := by rw [beq_eq_false_iff_ne]; omega
  have HTS := Lib.hid hts; have AX := Lib.hid ax; have HOK := Lib.hid hok
  clear hse hts hv ax hok
  go_enter Try.func53, Try.ntmps53
  go_wp2_with fail
  refine (tensorSize_impl _ L D X _ (hv0.ext (by repeat' (first | (with_reducible exact Ext.refl _) | (with_reducible assumption) | (with_reducible apply Ext.alloc) | (with_reducible apply Ext.drew) | (with_reducible apply Ext.drewN) | (refine Ext.setAt ?_ (by omega) _ _) | (refine Ext.trans ?_ (by assumption)))))).mono ?_; rintro e2 w2 ⟨rfl, h2⟩; rw [HTS.out]; have s2 := h2.size; (try simp at s2); have t2_0 : w.heap.size < w2.heap.size := (by omega); have c2_0 := fun o => h2.cells (w.heap.size) o (by first | (simp; done) | (simp; omega) | omega)
  go_wp2_with fail
  refine (indexOk_yes _ _ D I _ (hD.ext (by repeat' (first | (with_reducible exact Ext.refl _) | (with_reducible assumption) | (with_reducible apply Ext.alloc) | (with_reducible apply Ext.drew) | (with_reducible apply Ext.drewN) | (refine Ext.setAt ?_ (by omega) _ _) | (refine Ext.trans ?_ (by assumption))))) (hI.ext (by repeat' (first | (with_reducible exact Ext.refl _) | (with_reducible assumption) | (with_reducible apply Ext.alloc) | (with_reducible apply Ext.drew) | (with_reducible apply Ext.drewN) | (refine Ext.setAt ?_ (by omega) _ _) | (refine Ext.trans ?_ (by assumption))))) HOK.out AX.out.dims).mono ?_; rintro e3 w3 ⟨rfl, rfl⟩
  go_wp2_with fail
  refine (offsetIn_any _ _ D I _ (hD.ext (by repeat' (first | (with_reducible exact Ext.refl _) | (with_reducible assumption) | (with_reducible apply Ext.alloc) | (with_reducible apply Ext.drew) | (with_reducible apply Ext.drewN) | (refine Ext.setAt ?_ (by omega) _ _) | (refine Ext.trans ?_ (by assumption))))) (hI.ext (by repeat' (first | (with_reducible exact Ext.refl _) | (with_reducible assumption) | (with_reducible apply Ext.alloc) | (with_reducible apply Ext.drew) | (with_reducible apply Ext.drewN) | (refine Ext.setAt ?_ (by omega) _ _) | (refine Ext.trans ?_ (by assumption))))) HOK.out AX.out.dims AX.out.size).mono ?_; rintro e4 w4 ⟨rfl, rfl⟩
  go_wp2
  go_ret
  exact ⟨rfl, (by repeat' (first | (with_reducible exact Ext.refl _) | (with_reducible assumption) | (with_reducible apply Ext.alloc) | (with_reducible apply Ext.drew) | (with_reducible apply Ext.drewN) | (refine Ext.setAt ?_ (by omega) _ _) | (refine Ext.trans ?_ (by assumption))))⟩

/-! ### elements -/
theorem IntS.part {w : World} {b off n cap o W : Nat} {X : List Int} (h : IntS w (.slice (some ⟨b, off, none⟩) n cap) X) (hW : 1 ≤ W) (hf : o + W ≤ X.length) : IntS w (.slice (some ⟨b, off + o, none⟩) W (cap - o)) (getL X o W) := by
  obtain ⟨hl, a', cap', hv, h1, h2, h3⟩ := h.row
  cases hv
  have e : (getL X o W).length = W := getL_length hf
  refine ⟨⟨by rw [ints_length]; omega, some ⟨b, off + o, none⟩, cap - o, by rw [e], by omega, by omega, fun _ => ⟨b, off + o, rfl, fun j u hj => ?_⟩⟩⟩
  obtain ⟨b', off', ha, hc⟩ := h3 (by rw [ints_length]; omega)
  cases ha
  have hj2 := (List.getElem?_eq_some_iff.1 hj).1
  rw [ints_length, e] at hj2
  have : (ints X)[o + j]? = some u := by
    rw [ints_get] at hj ⊢
    rw [getL, List.getElem?_take_of_lt hj2, List.getElem?_drop] at hj
    exact hj
  have := hc (o + j) u this
  rw [Nat.add_assoc]; exact this
theorem rawElem_gen (k p n i : Int) (o W : Nat) (hW : ringWidth k n = (W : Int)) (a1 a2 : Option Addr) (m1 c1 m2 c2 bd off nd cd : Nat) (w : World) (ho : i * (W : Int) = o) (hi : 0 ≤ i) (hw : RingWide k n) (hfit : o + W ≤ nd) (hcd : nd ≤ cd) (hlen : nd ≤ 1048576) :
    Calls Try.prog 94 #[ringV k p n, .agg #[.slice a1 m1 c1, .slice a2 m2 c2, .slice (some ⟨bd, off, none⟩) nd cd], .int .i64 i] w fun e w' =>
      e = .returned (.slice (some ⟨bd, off + o, none⟩) W (cd - o)) ∧ Ext w w' := by
  have hw0 := hw.lo
  have hw1 := hw.hi
  rw [hW] at hw0 hw1
  have h1o : (i + 1) * (W : Int) = (o : Int) + W := by rw [Int.add_mul, Int.one_mul, ho]
  have hib : i * 1 ≤ i * (W : Int) := Int.mul_le_mul_of_nonneg_left (by omega) hi
  have e1 : IntKind.i64.wrap (i * (W : Int)) = (o : Int) := by rw [IntKind.wrap_i64, ho]; omega
  have e2 : IntKind.i64.wrap (i + 1) = i + 1 := by rw [IntKind.wrap_i64]; omega
  have e3 : IntKind.i64.wrap ((i + 1) * (W : Int)) = ((o + W : Nat) : Int) := by rw [IntKind.wrap_i64, h1o]; omega
  have e4 : o + W - o = W := by omega
  have e5 : o < cd := by omega
  have HW := Lib.hid hW; clear hW hw ho h1o
  go_enter Try.func94, Try.ntmps94
  go_wp2_with fail
  refine (rawWidth_any _ _ _ _).mono ?_; rintro e1 w1 ⟨rfl, h1⟩; rw [HW.out]; have s1 := h1.size; (try simp at s1); have t1_0 : w.heap.size < w1.heap.size := (by omega); have c1_0 := fun o => h1.cells (w.heap.size) o (by first | (simp; done) | (simp; omega) | omega); have t1_1 : w.heap.size + 1 < w1.heap.size := (by omega); have c1_1 := fun o => h1.cells (w.heap.size + 1) o (by first | (simp; done) | (simp; omega) | omega); have f1_0 := fun o => h1.frozens (w.heap.size) o (by first | (simp; done) | (simp; omega) | omega); have f1_1 := fun o => h1.frozens (w.heap.size + 1) o (by first | (simp; done) | (simp; omega) | omega)
  go_wp2
  go_ret
  exact ⟨by show Ending.returned (.slice (some ⟨bd, off + o, none⟩) (o + W - o) (cd - o)) = _; rw [e4], (by repeat' (first | (with_reducible exact Ext.refl _) | (with_reducible assumption) | (with_reducible apply Ext.alloc) | (with_reducible apply Ext.drew) | (with_reducible apply Ext.drewN) | (refine Ext.setAt ?_ (by omega) _ _) | (refine Ext.trans ?_ (by assumption))))⟩
theorem IntS.open {w : World} {v : Value} {l : List Int} (h : IntS w v l) (hp : 0 < l.length) : ∃ b off cap, v = .slice (some ⟨b, off, none⟩) l.length cap ∧ l.length ≤ cap ∧ cap ≤ 9223372036854775807 ∧ b < w.heap.size := by
  obtain ⟨hl, a, cap, hv, h1, h2, h3⟩ := h.row
  obtain ⟨b, off, rfl, hc⟩ := h3 (by rw [ints_length]; exact hp)
  have := hc 0 (.int .i64 l[0]) (by rw [ints_get, List.getElem?_eq_getElem hp]; rfl)
  exact ⟨b, off, cap, hv, h1, h2, World.block_lt_of_cell? _ _ this⟩
theorem TOk.nat {k p n : Int} {L D X : List Int} (h : TOk k p n L D X) (hr : ringOk k p n = true) : ∃ P W : Nat, prodL D = P ∧ ringWidth k n = W ∧ 1 ≤ P ∧ P ≤ 4096 ∧ 1 ≤ W ∧ W ≤ 6 ∧ X.length = P * W := by
  have hw := ringOk_wide hr
  have h0 := hw.lo
  have h1 := hw.hi
  have p0 := h.ax.pos
  have p1 := h.ax.size
  refine ⟨(prodL D).toNat, (ringWidth k n).toNat, by omega, by omega, by omega, by omega, by omega, by omega, ?_⟩
  have := h.len
  have e : prodL D * ringWidth k n = (((prodL D).toNat * (ringWidth k n).toNat : Nat) : Int) := by
    rw [Int.natCast_mul, Int.toNat_of_nonneg (by omega), Int.toNat_of_nonneg (by omega)]
  rw [e] at this
  exact Int.ofNat.inj this
theorem off_fit {D I : List Int} {P W : Nat} (hP : prodL D = P) (hok : idxOk D I = true) (hd : ∀ d ∈ D, 1 ≤ d ∧ d ≤ 8) : 0 ≤ offL D I ∧ (offL D I).toNat * W + W ≤ P * W ∧ offL D I * (W : Int) = (((offL D I).toNat * W : Nat) : Int) := by
  obtain ⟨h0, h1⟩ := offL_bounds hok hd
  have : ((offL D I).toNat + 1) * W ≤ P * W := Nat.mul_le_mul_right _ (by omega)
  rw [Nat.add_mul, Nat.one_mul] at this
  exact ⟨h0, this, by rw [Int.natCast_mul, Int.toNat_of_nonneg h0]⟩

set_option maxRecDepth 100000 in
set_option maxHeartbeats 1000000 in
theorem elemAt_yes (k p n : Int) (W : Nat) (v vI : Value) (L D X I : List Int) (w : World) (hr : ringOk k p n = true) (hW : ringWidth k n = (W : Int)) (ht : TOk k p n L D X) (hv : TenS w v L D X) (hI : IntS w vI I) (hok : idxOk D I = true) : Calls Try.prog 54 #[ringV k p n, v, vI] w fun e w' =>
    ∃ u, e = .returned u ∧ OwnI w' w.heap.size u (getL X ((offL D I).toNat * W) W) ∧ Ext w w' := by
  have hv0 := hv
  obtain ⟨p1, n1, c1, p2, n2, c2, p3, n3, c3, rfl⟩ := hv.shape
  obtain ⟨_, _, _, hvv, hL, hD, hX⟩ := hv.val
  simp at hvv
  obtain ⟨rfl, rfl, rfl⟩ := hvv
  obtain ⟨P, W', hP, hW', hP1, hP2, hW1, hW6, hXl⟩ := ht.nat hr
  obtain rfl : W = W' := by omega
  clear hW'
  have hPW1 : 1 ≤ P * W := Nat.mul_le_mul hP1 hW1
  have hPW : P * W ≤ 4096 * 6 := Nat.mul_le_mul hP2 hW6
  obtain ⟨f0, f1, f2⟩ := off_fit (W := W) hP hok ht.ax.dims
  obtain ⟨bd, off, cd, e3, hcd, hcd2, hbd⟩ := hX.open (by omega)
  simp at e3
  obtain ⟨rfl, rfl, rfl⟩ := e3
  obtain ⟨_, _, e1, _, _⟩ := hL.val
  simp at e1
  obtain ⟨rfl, rfl, rfl⟩ := e1
  obtain ⟨_, _, e2, _, _⟩ := hD.val
  simp at e2
  obtain ⟨rfl, rfl, rfl⟩ := e2
  have hYes := (tensOk_iff hr).2 ht
  have hw := ringOk_wide hr
  have hpart := hX.part (o := (offL D I).toNat * W) hW1 (by omega)
  have HXL := Lib.hid hXl; have HYes := Lib.hid hYes; have HWW := Lib.hid hW; have HOK := Lib.hid hok; have AX := Lib.hid ht.ax; have F2 := Lib.hid f2
  have hgl : (getL X ((offL D I).toNat * W) W).length = W := getL_length (by omega)
  have HGL := Lib.hid hgl
  rw [hXl] at hcd
  clear hXl hYes hW hok ht f2 hP hgl
  obtain ⟨ai, ci, rfl, hci1, hci2⟩ := hI.val
  go_enter Try.func54, Try.ntmps54
  go_wp2_with fail
  refine (tensorOk_impl k p n _ L D X _ (hv0.ext (by repeat' (first | (with_reducible exact Ext.refl _) | (with_reducible assumption) | (with_reducible apply Ext.alloc) | (with_reducible apply Ext.drew) | (with_reducible apply Ext.drewN) | (refine Ext.setAt ?_ (by omega) _ _) | (refine Ext.trans ?_ (by assumption)))))).mono ?_; rintro e1 w1 ⟨rfl, h1⟩; rw [HYes.out]; have s1 := h1.size; (try simp at s1); have t1_0 : w.heap.size < w1.heap.size := (by omega); have c1_0 := fun o => h1.cells (w.heap.size) o (by first | (simp; done) | (simp; omega) | omega); have t1_1 : w.heap.size + 1 < w1.heap.size := (by omega); have c1_1 := fun o => h1.cells (w.heap.size + 1) o (by first | (simp; done) | (simp; omega) | omega)
  go_wp2_with fail
  refine (indexOk_yes _ _ D I _ (hD.ext (by repeat' (first | (with_reducible exact Ext.refl _) | (with_reducible assumption) | (with_reducible apply Ext.alloc) | (with_reducible apply Ext.drew) | (with_reducible apply Ext.drewN) | (refine Ext.setAt ?_ (by omega) _ _) | (refine Ext.trans ?_ (by assumption))))) (hI.ext (by repeat' (first | (with_reducible exact Ext.refl _) | (with_reducible assumption) | (with_reducible apply Ext.alloc) | (with_reducible apply Ext.drew) | (with_reducible apply Ext.drewN) | (refine Ext.setAt ?_ (by omega) _ _) | (refine Ext.trans ?_ (by assumption))))) HOK.out AX.out.dims).mono ?_; rintro e2 w2 ⟨rfl, rfl⟩
  have i0 : w1.cell? ⟨w.heap.size, 0, none⟩ = some (.int .i64 k) := by simp [c1_0, go_sem]
  have i1 : w1.cell? ⟨w.heap.size, 1, none⟩ = some (.int .i64 p) := by simp [c1_0, go_sem]
  have i2 : w1.cell? ⟨w.heap.size, 2, none⟩ = some (.int .i64 n) := by simp [c1_0, go_sem]
  have t0 : w1.cell? ⟨w.heap.size + 1, 0, none⟩ = some (.slice p1 L.length c1) := by simp [c1_1, go_sem]
  have t1 : w1.cell? ⟨w.heap.size + 1, 1, none⟩ = some (.slice p2 D.length c2) := by simp [c1_1, go_sem]
  have t2 : w1.cell? ⟨w.heap.size + 1, 2, none⟩ = some (.slice (some ⟨bd, off, none⟩) X.length c3) := by simp [c1_1, go_sem]
  have E1 : Ext w w1 := (by repeat' (first | (with_reducible exact Ext.refl _) | (with_reducible assumption) | (with_reducible apply Ext.alloc) | (with_reducible apply Ext.drew) | (with_reducible apply Ext.drewN) | (refine Ext.setAt ?_ (by omega) _ _) | (refine Ext.trans ?_ (by assumption))))
  have D0 : Ext w1 w1.drew := (Ext.refl _).drew
  have hD1 := (hD.ext E1).ext D0
  have hI1 := (hI.ext E1).ext D0
  have hP1' := hpart.ext E1
  have hXc : X.length ≤ c3 := by rw [HXL.out]; exact hcd
  have hXf : (offL D I).toNat * W + W ≤ X.length := by rw [HXL.out]; exact f1
  have hX9 : X.length ≤ 1048576 := by rw [HXL.out]; omega
  go_wp2_with fail
  go_region_held3 (fun w' => w'.cell? ⟨w.heap.size, 0, none⟩ = some (.int .i64 k) ∧ w'.cell? ⟨w.heap.size, 1, none⟩ = some (.int .i64 p) ∧ w'.cell? ⟨w.heap.size, 2, none⟩ = some (.int .i64 n) ∧ w'.cell? ⟨w.heap.size + 1, 0, none⟩ = some (.slice p1 L.length c1) ∧ w'.cell? ⟨w.heap.size + 1, 1, none⟩ = some (.slice p2 D.length c2) ∧ w'.cell? ⟨w.heap.size + 1, 2, none⟩ = some (.slice (some ⟨bd, off, none⟩) X.length c3))
    (refine ⟨?_, ?_, ?_, ?_, ?_, ?_⟩ <;> first | assumption | (simp [*]; done))
    (first | (go_at_call 95; (with_reducible refine (offsetIn_any _ _ D I _ hD1 hI1 HOK.out AX.out.dims AX.out.size).mono ?_); rintro e3 w3 ⟨rfl, rfl⟩) | (go_at_call 94; (with_reducible refine (rawElem_gen k p n (offL D I) ((offL D I).toNat * W) W HWW.out _ _ _ _ _ _ bd off X.length c3 _ F2.out f0 hw hXf hXc hX9).mono ?_); rintro e4 w4 ⟨rfl, h4⟩; have g4 : Ext w1 w4 := D0.trans h4; have j0 := g4.cell i0; have j1 := g4.cell i1; have j2 := g4.cell i2; have j3 := g4.cell t0; have j4 := g4.cell t1; have j5 := g4.cell t2) | (go_at_call 65; (with_reducible refine (copyInts_any _ (getL X ((offL D I).toNat * W) W) w4 (hP1'.ext g4) (by rw [HGL.out]; omega)).mono ?_); rintro e5 w5 ⟨v5, rfl, o5, h5⟩; have g5 : Ext w1 w5 := g4.trans h5; have l0 := g5.cell i0; have l1 := g5.cell i1; have l2 := g5.cell i2; have l3 := g5.cell t0; have l4 := g5.cell t1; have l5 := g5.cell t2))
  go_wp2
  go_ret
  exact ⟨_, rfl, o5.mono (E1.trans g4).size, E1.trans g5⟩

set_option maxRecDepth 100000 in
set_option maxHeartbeats 1000000 in
theorem copyTensor_any (v : Value) (L D X : List Int) (w : World) (hv : TenS w v L D X) (h1 : L.length ≤ 1048576) (h2 : D.length ≤ 1048576) (h3 : X.length ≤ 1048576) : Calls Try.prog 93 #[v] w fun e w' =>
    ∃ u, e = .returned u ∧ OwnT w' w.heap.size u L D X ∧ Ext w w' := by
  obtain ⟨p1, n1, c1, p2, n2, c2, p3, n3, c3, rfl⟩ := hv.shape
  obtain ⟨_, _, _, hvv, hL, hD, hX⟩ := hv.val
  simp at hvv
  obtain ⟨rfl, rfl, rfl⟩ := hvv
  obtain ⟨_, _, e1, _, _⟩ := hL.val
  simp at e1
  obtain ⟨rfl, rfl, rfl⟩ := e1
  obtain ⟨_, _, e2, _, _⟩ := hD.val
  simp at e2
  obtain ⟨rfl, rfl, rfl⟩ := e2
  obtain ⟨_, _, e3, _, _⟩ := hX.val
  simp at e3
  obtain ⟨rfl, rfl, rfl⟩ := e3
  go_enter Try.func93, Try.ntmps93
  go_wp2_with fail
  generalize hW : (w.alloc (.cells #[.slice p1 L.length c1, .slice p2 D.length c2, .slice p3 X.length c3] 26)).alloc (.cells #[.slice none 0 0, .slice none 0 0, .slice none 0 0] 26) = W
  have E : Ext w W := by rw [← hW]; exact (by repeat' (first | (with_reducible exact Ext.refl _) | (with_reducible assumption) | (with_reducible apply Ext.alloc) | (with_reducible apply Ext.drew) | (with_reducible apply Ext.drewN) | (refine Ext.setAt ?_ (by omega) _ _) | (refine Ext.trans ?_ (by assumption))))
  have hS : W.heap.size = w.heap.size + 2 := by rw [← hW]; simp
  have BK : Blk W w.heap.size 26 [.slice p1 L.length c1, .slice p2 D.length c2, .slice p3 X.length c3] := by rw [← hW]; exact Blk.ext (Blk.new w #[_, _, _] 26) (by repeat' (first | (with_reducible exact Ext.refl _) | (with_reducible assumption) | (with_reducible apply Ext.alloc) | (with_reducible apply Ext.drew) | (with_reducible apply Ext.drewN) | (refine Ext.setAt ?_ (by omega) _ _) | (refine Ext.trans ?_ (by assumption))))
  have BR : Blk W (w.heap.size + 1) 26 [.slice none 0 0, .slice none 0 0, .slice none 0 0] := by rw [← hW]; simpa using Blk.new (w.alloc (.cells #[.slice p1 L.length c1, .slice p2 D.length c2, .slice p3 X.length c3] 26)) #[.slice none 0 0, .slice none 0 0, .slice none 0 0] 26
  have i0 := BK.cell (j := 0) rfl
  have i1 := BK.cell (j := 1) rfl
  have i2 := BK.cell (j := 2) rfl
  have hKl := BK.lt
  have hRl := BR.lt
  have HS := Lib.hid hS
  clear hW hS
  have D0 : Ext W W.drew := (Ext.refl _).drew
  have hL0 := (hL.ext E).ext D0
  have hD0 := hD.ext E
  have hX0 := hX.ext E
  go_region_held3 (fun w' => w'.cell? ⟨w.heap.size, 0, none⟩ = some (.slice p1 L.length c1) ∧ w'.cell? ⟨w.heap.size, 1, none⟩ = some (.slice p2 D.length c2) ∧ w'.cell? ⟨w.heap.size, 2, none⟩ = some (.slice p3 X.length c3))
    (first | (refine ⟨?_, ?_, ?_⟩ <;> assumption) | go_keep)
    (first | (go_at_call 65; (with_reducible refine (copyInts_any (.slice p1 L.length c1) L W.drew hL0 (by omega)).mono ?_); rintro e1 w1 ⟨v1, rfl, o1, h1⟩; have g1 : Ext W w1 := D0.trans h1; have j0 := g1.cell i0; have j1 := g1.cell i1; have j2 := g1.cell i2) | (go_at_call 65; (with_reducible refine (copyInts_any (.slice p2 D.length c2) D w1 (hD0.ext g1) (by omega)).mono ?_); rintro e2 w2 ⟨v2, rfl, o2, h2⟩; have g2 : Ext W w2 := g1.trans h2; have k0 := g2.cell i0; have k1 := g2.cell i1; have k2 := g2.cell i2) | (go_at_call 65; (with_reducible refine (copyInts_any (.slice p3 X.length c3) X w2 (hX0.ext g2) (by omega)).mono ?_); rintro e3 w3 ⟨v3, rfl, o3, h3⟩; have g3 : Ext W w3 := g2.trans h3; have l0 := g3.cell i0; have l1 := g3.cell i1; have l2 := g3.cell i2; have hR3 := BR.ext g3; have f0 := hR3.free 0; have f1 := hR3.free 1; have f2 := hR3.free 2; have r0 := hR3.cell (j := 0) rfl; have r1 := hR3.cell (j := 1) rfl; have r2 := hR3.cell (j := 2) rfl; have hRl3 := hR3.lt; obtain ⟨a1, q1, rfl, _, _⟩ := o1.ints.val; obtain ⟨a2, q2, rfl, _, _⟩ := o2.ints.val; obtain ⟨a3, q3, rfl, _, _⟩ := o3.ints.val))
  have E3 : Ext w w3 := E.trans g3
  have hs := HS.out
  have s1 := h1.size
  have s2 := h2.size
  have s3 := h3.size
  simp at s1
  have B1 : Hid (∀ q, (Value.slice a1 L.length q1).ownBlock = some q → w.heap.size + 1 < q ∧ q < w1.heap.size) := Lib.hid fun q hq => by have := o1.block_lt hq; simp at this; omega
  have B2 : Hid (∀ q, (Value.slice a2 D.length q2).ownBlock = some q → w1.heap.size ≤ q ∧ q < w2.heap.size) := Lib.hid fun q hq => o2.block_lt hq
  have B3 : Hid (∀ q, (Value.slice a3 X.length q3).ownBlock = some q → w2.heap.size ≤ q) := Lib.hid fun q hq => (o3.block_lt hq).1
  have p1' := (o1.mono (show w.heap.size + 2 ≤ W.drew.heap.size from by simp; omega)).ext (h2.trans h3)
  have p2' := (o2.mono (show w.heap.size + 2 ≤ w1.heap.size from by omega)).ext h3
  have p3' := o3.mono (show w.heap.size + 2 ≤ w2.heap.size from by omega)
  go_wp2
  refine bodyPost_ret (v := .agg #[.slice a1 L.length q1, .slice a2 D.length q2, .slice a3 X.length q3]) (by simp [results, Try.results93, go_sem, *]) rfl ?_
  refine ⟨_, rfl, ⟨_, _, _, rfl, ?_, ?_, ?_, fun q hq => ⟨fun e => ?_, fun e => ?_⟩, fun q hq e => ?_⟩, (by repeat' (first | (with_reducible exact Ext.refl _) | (with_reducible assumption) | (with_reducible apply Ext.alloc) | (with_reducible apply Ext.drew) | (with_reducible apply Ext.drewN) | (refine Ext.setAt ?_ (by omega) _ _) | (refine Ext.trans ?_ (by assumption))))⟩
  · exact (((p1'.setBelow (by simp) _).setBelow (by simp) _).setBelow (by simp) _).mono (by omega)
  · exact (((p2'.setBelow (by simp) _).setBelow (by simp) _).setBelow (by simp) _).mono (by omega)
  · exact (((p3'.setBelow (by simp) _).setBelow (by simp) _).setBelow (by simp) _).mono (by omega)
  · have := B1.out q hq; have := B2.out q e; omega
  · have := B1.out q hq; have := B3.out q e; omega
  · have := B2.out q hq; have := B3.out q e; omega
theorem same_same (v u : Value) (L D X L' D' X' : List Int) (w : World) (hl : TenS w v L D X) (hm : TenS w u L' D' X') (e1 : L = L') (e2 : D = D') (e3 : X = X') : Calls Try.prog 55 #[v, u] w fun e w' =>
    e = .returned (.bool true) ∧ Ext w w' := by
  subst e1 e2 e3
  obtain ⟨a, b, c, rfl, h1, h2, h3⟩ := hl.val
  obtain ⟨a', b', c', rfl, g1, g2, g3⟩ := hm.val
  obtain ⟨x1, y1, rfl, _, _⟩ := h1.val
  obtain ⟨x2, y2, rfl, _, _⟩ := h2.val
  obtain ⟨x3, y3, rfl, _, _⟩ := h3.val
  obtain ⟨z1, u1, rfl, _, _⟩ := g1.val
  obtain ⟨z2, u2, rfl, _, _⟩ := g2.val
  obtain ⟨z3, u3, rfl, _, _⟩ := g3.val
  go_enter Try.func55, Try.ntmps55
  go_wp2_with fail
  refine (ints_same _ _ L L _ (h1.ext (by repeat' (first | (with_reducible exact Ext.refl _) | (with_reducible assumption) | (with_reducible apply Ext.alloc) | (with_reducible apply Ext.drew) | (with_reducible apply Ext.drewN) | (refine Ext.setAt ?_ (by omega) _ _) | (refine Ext.trans ?_ (by assumption))))) (g1.ext (by repeat' (first | (with_reducible exact Ext.refl _) | (with_reducible assumption) | (with_reducible apply Ext.alloc) | (with_reducible apply Ext.drew) | (with_reducible apply Ext.drewN) | (refine Ext.setAt ?_ (by omega) _ _) | (refine Ext.trans ?_ (by assumption))))) rfl).mono ?_; rintro e1 w1 ⟨rfl, rfl⟩
  go_wp2_with fail
  refine (ints_same _ _ D D _ (h2.ext (by repeat' (first | (with_reducible exact Ext.refl _) | (with_reducible assumption) | (with_reducible apply Ext.alloc) | (with_reducible apply Ext.drew) | (with_reducible apply Ext.drewN) | (refine Ext.setAt ?_ (by omega) _ _) | (refine Ext.trans ?_ (by assumption))))) (g2.ext (by repeat' (first | (with_reducible exact Ext.refl _) | (with_reducible assumption) | (with_reducible apply Ext.alloc) | (with_reducible apply Ext.drew) | (with_reducible apply Ext.drewN) | (refine Ext.setAt ?_ (by omega) _ _) | (refine Ext.trans ?_ (by assumption))))) rfl).mono ?_; rintro e2 w2 ⟨rfl, rfl⟩
  go_wp2_with fail
  refine (ints_same _ _ X X _ (h3.ext (by repeat' (first | (with_reducible exact Ext.refl _) | (with_reducible assumption) | (with_reducible apply Ext.alloc) | (with_reducible apply Ext.drew) | (with_reducible apply Ext.drewN) | (refine Ext.setAt ?_ (by omega) _ _) | (refine Ext.trans ?_ (by assumption))))) (g3.ext (by repeat' (first | (with_reducible exact Ext.refl _) | (with_reducible assumption) | (with_reducible apply Ext.alloc) | (with_reducible apply Ext.drew) | (with_reducible apply Ext.drewN) | (refine Ext.setAt ?_ (by omega) _ _) | (refine Ext.trans ?_ (by assumption))))) rfl).mono ?_; rintro e3 w3 ⟨rfl, rfl⟩
  go_wp2
  go_ret
  exact ⟨rfl, (by repeat' (first | (with_reducible exact Ext.refl _) | (with_reducible assumption) | (with_reducible apply Ext.alloc) | (with_reducible apply Ext.drew) | (with_reducible apply Ext.drewN) | (refine Ext.setAt ?_ (by omega) _ _) | (refine Ext.trans ?_ (by assumption))))⟩
theorem elemOk_of {k p n : Int} {x : List Int} (hr : ringOk k p n = true) (h : rawOk k p n x = true) : elemOk k p n x = true := by rw [elemOk_yes hr]; exact h
set_option maxRecDepth 100000 in
set_option maxHeartbeats 2000000 in
theorem setElem_yes (k p n : Int) (W : Nat) (v vI vx : Value) (L D X I x : List Int) (w : World) (hr : ringOk k p n = true) (hW : ringWidth k n = (W : Int)) (ht : TOk k p n L D X) (hv : TenS w v L D X) (hI : IntS w vI I) (hok : idxOk D I = true) (hx : IntS w vx x) (hxk : rawOk k p n x = true) : Calls Try.prog 52 #[ringV k p n, v, vI, vx] w fun e w' =>
    ∃ u, e = .returned u ∧ OwnT w' w.heap.size u L D (putL X ((offL D I).toNat * W) x) ∧ Ext w w' := by
  have hv0 := hv
  obtain ⟨p1, n1, c1, p2, n2, c2, p3, n3, c3, rfl⟩ := hv.shape
  obtain ⟨_, _, _, hvv, hL, hD, hX⟩ := hv.val
  simp at hvv
  obtain ⟨rfl, rfl, rfl⟩ := hvv
  obtain ⟨P, W', hP, hW', hP1, hP2, hW1, hW6, hXl⟩ := ht.nat hr
  obtain rfl : W = W' := by omega
  clear hW'
  have hPW1 : 1 ≤ P * W := Nat.mul_le_mul hP1 hW1
  have hPW : P * W ≤ 4096 * 6 := Nat.mul_le_mul hP2 hW6
  obtain ⟨f0, f1, f2⟩ := off_fit (W := W) hP hok ht.ax.dims
  obtain ⟨_, _, e3, _, _⟩ := hX.val
  simp at e3
  obtain ⟨rfl, rfl, rfl⟩ := e3
  obtain ⟨_, _, e1, _, _⟩ := hL.val
  simp at e1
  obtain ⟨rfl, rfl, rfl⟩ := e1
  obtain ⟨_, _, e2, _, _⟩ := hD.val
  simp at e2
  obtain ⟨rfl, rfl, rfl⟩ := e2
  have hYes := (tensOk_iff hr).2 ht
  have hw := ringOk_wide hr
  have hxe := elemOk_of hr hxk
  have hxl : x.length = W := by have := (rawOk_iff.1 hxk).1; omega
  have hrk := ht.ax.rank
  have hln := ht.ax.len
  have hdl : D.length ≤ 12 := by omega
  have hX9 : X.length ≤ 1048576 := by omega
  have hXp : 0 < X.length := by omega
  have hXf : (offL D I).toNat * W + W ≤ X.length := by omega
  have HXL := Lib.hid hXl; have HYes := Lib.hid hYes; have HWW := Lib.hid hW; have HOK := Lib.hid hok; have AX := Lib.hid ht.ax; have F2 := Lib.hid f2; have HXE := Lib.hid hxe; have Hxl := Lib.hid hxl
  clear hXl hYes hW hok ht f2 hP hxe hxl hxk hln
  obtain ⟨ai, ci, rfl, hci1, hci2⟩ := hI.val
  obtain ⟨ax, cx, rfl, hcx1, hcx2⟩ := hx.val
  go_enter Try.func52, Try.ntmps52
  go_wp2_with fail
  refine (tensorOk_impl k p n _ L D X _ (hv0.ext (by repeat' (first | (with_reducible exact Ext.refl _) | (with_reducible assumption) | (with_reducible apply Ext.alloc) | (with_reducible apply Ext.drew) | (with_reducible apply Ext.drewN) | (refine Ext.setAt ?_ (by omega) _ _) | (refine Ext.trans ?_ (by assumption)))))).mono ?_; rintro e1 w1 ⟨rfl, h1⟩; rw [HYes.out]; have s1 := h1.size; (try simp at s1); have t1_0 : w.heap.size < w1.heap.size := (by omega); have c1_0 := fun o => h1.cells (w.heap.size) o (by first | (simp; done) | (simp; omega) | omega); have t1_1 : w.heap.size + 1 < w1.heap.size := (by omega); have c1_1 := fun o => h1.cells (w.heap.size + 1) o (by first | (simp; done) | (simp; omega) | omega)
  go_wp2_with fail
  refine (indexOk_yes _ _ D I _ (hD.ext (by repeat' (first | (with_reducible exact Ext.refl _) | (with_reducible assumption) | (with_reducible apply Ext.alloc) | (with_reducible apply Ext.drew) | (with_reducible apply Ext.drewN) | (refine Ext.setAt ?_ (by omega) _ _) | (refine Ext.trans ?_ (by assumption))))) (hI.ext (by repeat' (first | (with_reducible exact Ext.refl _) | (with_reducible assumption) | (with_reducible apply Ext.alloc) | (with_reducible apply Ext.drew) | (with_reducible apply Ext.drewN) | (refine Ext.setAt ?_ (by omega) _ _) | (refine Ext.trans ?_ (by assumption))))) HOK.out AX.out.dims).mono ?_; rintro e2 w2 ⟨rfl, rfl⟩
  go_wp2_with fail
  refine (elemOk_impl _ _ _ _ x _ (hx.ext (by repeat' (first | (with_reducible exact Ext.refl _) | (with_reducible assumption) | (with_reducible apply Ext.alloc) | (with_reducible apply Ext.drew) | (with_reducible apply Ext.drewN) | (refine Ext.setAt ?_ (by omega) _ _) | (refine Ext.trans ?_ (by assumption)))))).mono ?_; rintro e2 w2 ⟨rfl, h2⟩; rw [HXE.out]
  have E1 : Ext w w1 := (by repeat' (first | (with_reducible exact Ext.refl _) | (with_reducible assumption) | (with_reducible apply Ext.alloc) | (with_reducible apply Ext.drew) | (with_reducible apply Ext.drewN) | (refine Ext.setAt ?_ (by omega) _ _) | (refine Ext.trans ?_ (by assumption))))
  have E2 : Ext w w2 := E1.trans h2
  have hs1 := h1.size
  simp at hs1
  have hs2 := h2.size
  have BK : Blk w1 w.heap.size 28 [.int .i64 k, .int .i64 p, .int .i64 n] := Blk.ext (w := ((w.alloc (.cells #[.int .i64 k, .int .i64 p, .int .i64 n] 28)).alloc (.cells #[.slice p1 L.length c1, .slice p2 D.length c2, .slice p3 X.length c3] 26)).alloc (.cells #[.slice none 0 0, .slice none 0 0, .slice none 0 0] 26)) (Blk.ext (Blk.new w #[.int .i64 k, .int .i64 p, .int .i64 n] 28) (by repeat' (first | (with_reducible exact Ext.refl _) | (with_reducible assumption) | (with_reducible apply Ext.alloc) | (with_reducible apply Ext.drew) | (with_reducible apply Ext.drewN) | (refine Ext.setAt ?_ (by omega) _ _) | (refine Ext.trans ?_ (by assumption))))) h1
  have BT : Blk w1 (w.heap.size + 1) 26 [.slice p1 L.length c1, .slice p2 D.length c2, .slice p3 X.length c3] := Blk.ext (w := ((w.alloc (.cells #[.int .i64 k, .int .i64 p, .int .i64 n] 28)).alloc (.cells #[.slice p1 L.length c1, .slice p2 D.length c2, .slice p3 X.length c3] 26)).alloc (.cells #[.slice none 0 0, .slice none 0 0, .slice none 0 0] 26)) (Blk.ext (w := (w.alloc (.cells #[.int .i64 k, .int .i64 p, .int .i64 n] 28)).alloc (.cells #[.slice p1 L.length c1, .slice p2 D.length c2, .slice p3 X.length c3] 26)) (by simpa using Blk.new (w.alloc (.cells #[.int .i64 k, .int .i64 p, .int .i64 n] 28)) #[.slice p1 L.length c1, .slice p2 D.length c2, .slice p3 X.length c3] 26) (by repeat' (first | (with_reducible exact Ext.refl _) | (with_reducible assumption) | (with_reducible apply Ext.alloc) | (with_reducible apply Ext.drew) | (with_reducible apply Ext.drewN) | (refine Ext.setAt ?_ (by omega) _ _) | (refine Ext.trans ?_ (by assumption))))) h1
  have BR : Blk w1 (w.heap.size + 2) 26 [.slice none 0 0, .slice none 0 0, .slice none 0 0] := Blk.ext (w := ((w.alloc (.cells #[.int .i64 k, .int .i64 p, .int .i64 n] 28)).alloc (.cells #[.slice p1 L.length c1, .slice p2 D.length c2, .slice p3 X.length c3] 26)).alloc (.cells #[.slice none 0 0, .slice none 0 0, .slice none 0 0] 26)) (by simpa using Blk.new ((w.alloc (.cells #[.int .i64 k, .int .i64 p, .int .i64 n] 28)).alloc (.cells #[.slice p1 L.length c1, .slice p2 D.length c2, .slice p3 X.length c3] 26)) #[.slice none 0 0, .slice none 0 0, .slice none 0 0] 26) h1
  have BT2 := BT.ext h2
  have u0 := BT2.cell (j := 0) rfl
  have u1 := BT2.cell (j := 1) rfl
  have u2 := BT2.cell (j := 2) rfl
  have hTl2 := BT2.lt
  go_wp2_with fail
  refine (copyTensor_any _ L D X _ (hv0.ext E2) (by omega) (by omega) hX9).mono ?_; rintro e3 w3 ⟨v3, rfl, o3, h3⟩
  have E3 : Ext w w3 := E2.trans h3
  have hs3 := h3.size
  have BK3 := (BK.ext h2).ext h3
  have BT3 := BT2.ext h3
  have BR3 := (BR.ext h2).ext h3
  obtain ⟨va, vb, vd, rfl, oa, ob, od, ap1, ap2⟩ := o3.val
  obtain ⟨bd, cd2, hbd, rfl, hcd3, hcd4⟩ := od.open hXp
  obtain ⟨aa, ca, rfl, _, _⟩ := oa.ints.val
  obtain ⟨ab, cb, rfl, _, _⟩ := ob.ints.val
  have hbd3 : bd < w3.heap.size := (od.block_lt rfl).2
  have NA : Hid (∀ q, (Value.slice aa L.length ca).ownBlock = some q → q ≠ bd ∧ w.heap.size + 2 < q) := Lib.hid fun q hq => ⟨fun e => (ap1 q hq).2 (by rw [e]; rfl), by have := oa.block_lt hq; omega⟩
  have NB : Hid (∀ q, (Value.slice ab D.length cb).ownBlock = some q → q ≠ bd ∧ w.heap.size + 2 < q) := Lib.hid fun q hq => ⟨fun e => ap2 q hq (by rw [e]; rfl), by have := ob.block_lt hq; omega⟩
  have NAB : Hid (∀ q, (Value.slice aa L.length ca).ownBlock = some q → (Value.slice ab D.length cb).ownBlock ≠ some q) := Lib.hid fun q hq e => (ap1 q hq).1 e
  clear o3 ap1 ap2
  go_wp2_with fail
  generalize hWd : w3.alloc (.cells #[.slice aa L.length ca, .slice ab D.length cb, .slice (some ⟨bd, 0, none⟩) X.length cd2] 26) = wr
  have E : Ext w3 wr := by rw [← hWd]; exact (by repeat' (first | (with_reducible exact Ext.refl _) | (with_reducible assumption) | (with_reducible apply Ext.alloc) | (with_reducible apply Ext.drew) | (with_reducible apply Ext.drewN) | (refine Ext.setAt ?_ (by omega) _ _) | (refine Ext.trans ?_ (by assumption))))
  have hT1 : Blk wr w3.heap.size 26 [.slice aa L.length ca, .slice ab D.length cb, .slice (some ⟨bd, 0, none⟩) X.length cd2] := by rw [← hWd]; exact Blk.new w3 #[_, _, _] 26
  clear hWd
  have hK1 := BK3.ext E
  have hB1 := BT3.ext E
  have hR1 := BR3.ext E
  have i0 := hK1.cell (j := 0) rfl
  have i1 := hK1.cell (j := 1) rfl
  have i2 := hK1.cell (j := 2) rfl
  have i3 := hB1.cell (j := 1) rfl
  have t0 := hT1.cell (j := 0) rfl
  have t1 := hT1.cell (j := 1) rfl
  have t2 := hT1.cell (j := 2) rfl
  have D0 : Ext wr wr.drew := (Ext.refl _).drew
  have Er : Ext w wr := E3.trans E
  have hD1 := (hD.ext Er).ext D0
  have hI1 := (hI.ext Er).ext D0
  have hx1 := hx.ext Er
  have hX1 := od.ext E
  have hTl := hT1.lt
  have hRl := hR1.lt
  go_region_held3 (fun w' => w'.cell? ⟨w.heap.size, 0, none⟩ = some (.int .i64 k) ∧ w'.cell? ⟨w.heap.size, 1, none⟩ = some (.int .i64 p) ∧ w'.cell? ⟨w.heap.size, 2, none⟩ = some (.int .i64 n) ∧ w'.cell? ⟨w.heap.size + 1, 1, none⟩ = some (.slice p2 D.length c2) ∧ w'.cell? ⟨w3.heap.size, 0, none⟩ = some (.slice aa L.length ca) ∧ w'.cell? ⟨w3.heap.size, 1, none⟩ = some (.slice ab D.length cb) ∧ w'.cell? ⟨w3.heap.size, 2, none⟩ = some (.slice (some ⟨bd, 0, none⟩) X.length cd2))
    (refine ⟨?_, ?_, ?_, ?_, ?_, ?_, ?_⟩ <;> first | assumption | (simp [*]; done))
    (first | (go_at_call 95; (with_reducible refine (offsetIn_any _ _ D I _ hD1 hI1 HOK.out AX.out.dims AX.out.size).mono ?_); rintro e4 w4 ⟨rfl, rfl⟩) | (go_at_call 94; (with_reducible refine (rawElem_any k p n (offL D I) ((offL D I).toNat * W) W HWW.out _ _ _ _ _ _ bd X.length cd2 _ F2.out f0 hw hXf hcd3 hX9).mono ?_); rintro e4 w4 ⟨rfl, h4⟩; have g4 : Ext wr w4 := D0.trans h4; have j0 := g4.cell i0; have j1 := g4.cell i1; have j2 := g4.cell i2; have j3 := g4.cell i3; have j4 := g4.cell t0; have j5 := g4.cell t1; have j6 := g4.cell t2) | (refine step_copy w4 rfl _ _ 24 rfl (.slice (some ⟨bd, (offL D I).toNat * W, none⟩) W (cd2 - (offL D I).toNat * W)) (.slice ax x.length cx) rfl rfl _ (run_copy_len _ rfl (hX1.ext g4) (hx1.ext g4) Hxl.out hW1 hXf) ?_; rintro v6 w6 ⟨o6, g6⟩; have z0 := grown_cell g6 (show w.heap.size ≠ bd by omega) j0; have z1 := grown_cell g6 (show w.heap.size ≠ bd by omega) j1; have z2 := grown_cell g6 (show w.heap.size ≠ bd by omega) j2; have z3 := grown_cell g6 (show w.heap.size + 1 ≠ bd by omega) j3; have z4 := grown_cell g6 (show w3.heap.size ≠ bd by omega) j4; have z5 := grown_cell g6 (show w3.heap.size ≠ bd by omega) j5; have z6 := grown_cell g6 (show w3.heap.size ≠ bd by omega) j6))
  have s4 := g4.size
  have s6 := g6.size
  have hE6 : Ext w w6 := (Er.trans g4).only g6 (fun q hq => by injection hq with hq; omega)
  have hR6 := (hR1.ext g4).block (g6.block _ (by omega) (fun e => by injection e with e; omega))
  have hA6 := ((oa.ext E).ext g4).only g6 (fun q hq e => by injection e with e; exact (NA.out q hq).1 e.symm)
  have hB6 := ((ob.ext E).ext g4).only g6 (fun q hq e => by injection e with e; exact (NB.out q hq).1 e.symm)
  have f0 := hR6.free 0
  have f1' := hR6.free 1
  have f2 := hR6.free 2
  have r0 := hR6.cell (j := 0) rfl
  have r1 := hR6.cell (j := 1) rfl
  have r2 := hR6.cell (j := 2) rfl
  have hRl6 := hR6.lt
  go_wp2
  refine bodyPost_ret (v := .agg #[.slice aa L.length ca, .slice ab D.length cb, .slice (some ⟨bd, 0, none⟩) X.length cd2]) (by simp [results, Try.results52, go_sem, *]) rfl ?_
  refine ⟨_, rfl, ⟨_, _, _, rfl, ?_, ?_, ?_, fun q hq => ⟨fun e => ?_, fun e => ?_⟩, fun q hq e => ?_⟩, (by repeat' (first | (with_reducible exact Ext.refl _) | (with_reducible assumption) | (with_reducible apply Ext.alloc) | (with_reducible apply Ext.drew) | (with_reducible apply Ext.drewN) | (refine Ext.setAt ?_ (by omega) _ _) | (refine Ext.trans ?_ (by assumption))))⟩
  · exact (((hA6.setOther (fun q hq => by have := NA.out q hq; first | omega | (simp; omega)) _).setOther (fun q hq => by have := NA.out q hq; first | omega | (simp; omega)) _).setOther (fun q hq => by have := NA.out q hq; first | omega | (simp; omega)) _).mono (by omega)
  · exact (((hB6.setOther (fun q hq => by have := NB.out q hq; first | omega | (simp; omega)) _).setOther (fun q hq => by have := NB.out q hq; first | omega | (simp; omega)) _).setOther (fun q hq => by have := NB.out q hq; first | omega | (simp; omega)) _).mono (by omega)
  · exact (((o6.setOther (fun q hq => by simp [Value.ownBlock] at hq; first | omega | (simp; omega)) _).setOther (fun q hq => by simp [Value.ownBlock] at hq; first | omega | (simp; omega)) _).setOther (fun q hq => by simp [Value.ownBlock] at hq; first | omega | (simp; omega)) _).mono (by omega)
  · exact NAB.out q hq e
  · simp [Value.ownBlock] at e; exact (NA.out q hq).1 e.symm
  · simp [Value.ownBlock] at e; exact (NB.out q hq).1 e.symm
end Go.Proofs.Ytlmidcclcnehnaa
