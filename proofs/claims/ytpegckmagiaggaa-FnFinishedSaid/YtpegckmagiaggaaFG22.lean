/- Texts of one kind, merged by program. -/
import Derived.Test.YtpegckmagiaggaaFBase
import Derived.Test.YtpegckmagiaggaaFOrdF
import Derived.Test.YtpegckmagiaggaaFG17
import Derived.Test.YtpegckmagiaggaaFOrdW
import Derived.Test.YtpegckmagiaggaaFFinW
import Derived.Test.YtpegckmagiaggaaFG15
/- PlainOrder of the program. -/
set_option linter.unusedSimpArgs false
set_option linter.unusedVariables false
namespace Go.Proofs.Ytpegckmagiaggaa
open Go.RowKit
theorem Try.infoStep : (Try.prog.info? 138).map (fun i => (i.zero, i.size, i.bytes)) = some (some (.agg #[.int .i64 0, .int .i64 0]), 2, 16) := by kernel_rfl
section
variable {ex : Option Nat} {a w w' : World} {L : List Asn} {k : Nat}
theorem run_pushSt (ty : TypeId) {v src x y : Value} {n : Nat} {xs : List Value} (h : HeldX ex a w L) (h1 : L[k]? = some (aR 138 2 v n xs)) (hr : Row w 2 src 1 [x, y]) (hx : x.oneCell' = true) (hy : y.oneCell' = true) (hb : n + 1 ≤ 1099511627) :
    ∃ v' w', (Builtin.append_ #[72, 72] ty #[v, src]).run Try.prog w = .ok v' w' ∧ HeldX ex a w' (L.set k (aR 138 2 v' (n + 1) (xs ++ [x, y]))) ∧ w.grownBy w' v.ownBlock ∧ Row w' 2 v' (n + 1) (xs ++ [x, y]) := by
  have ho : w.ownsRow 0 138 2 v n xs := h.get h1
  obtain ⟨i, hi, hzz⟩ := Option.map_eq_some_iff.1 Try.infoStep
  simp only [Prod.mk.injEq] at hzz
  obtain ⟨hz, hsz, hby⟩ := hzz
  obtain ⟨v', w', e1, e2, e3, e4⟩ := run_app (P := Try.prog) w 0 72 ty 138 i _ 2 16 Try.underlying72 hi hz hsz hby rfl (by omega) v _ _ ho src 1 _ hr (by intro u hu; simp at hu; rcases hu with rfl | rfl; exact hx; exact hy) (by unfold maxLen; omega) (by omega) (Nat.zero_le _)
  refine ⟨v', w', e1, h.turn h1 e3 (fun b hb => by simp [aR, hb]) e2 fun c hc => ?_, e3, ownsRow_row e2⟩
  rcases e4 with e4 | e4
  · left; have hc' : c ∈ v'.ownBlock.toList := hc; rw [e4] at hc'; exact hc'
  · right; have hc' : c ∈ v'.ownBlock.toList := hc; rw [e4] at hc'; simp at hc'; omega
end
def aSt (v : Value) (os : List (Int × Int)) : Asn := aR 138 2 v os.length (os.flatMap cellsP)
theorem HeldX.steps {ex : Option Nat} {a w : World} {L : List Asn} {k : Nat} {v : Value} {os : List (Int × Int)} (h : HeldX ex a w L) (hk : L[k]? = some (aSt v os)) : StepsS w v os := ⟨ownsRow_row (h.get hk)⟩
def plainAt (m q : Nat) : Int × Int := if q = 0 then (0, 1) else ((q : Int) + 1, (m : Int) + q - 1)
def plainT (m q : Nat) : List (Int × Int) := (List.range q).map (plainAt m)
theorem plainT_succ (m q : Nat) : plainT m (q + 1) = plainT m q ++ [plainAt m q] := by simp [plainT, List.range_succ]
theorem plainT_len (m q : Nat) : (plainT m q).length = q := by simp [plainT]
theorem plainC_succ (m q : Nat) : (plainT m (q + 1)).flatMap cellsP = (plainT m q).flatMap cellsP ++ [.int .i64 (plainAt m q).1, .int .i64 (plainAt m q).2] := by rw [plainT_succ, List.flatMap_append]; rfl
set_option maxRecDepth 100000 in
set_option maxHeartbeats 400000 in
theorem plainOrder_own {k p n : Int} (hr : ringOk k p n = true) {dm : Int → Int} {U : List Int} {ts : List (NT k p n)} {op : List Int} (hN : IsN k p n dm U ts op) (tv ov : Value) (w : World) (hT : TensS w tv (ts.map (tenOf dm))) (hO : IntS w ov op) :
    Calls Try.prog 68 #[.agg #[.int .i64 k, .int .i64 p, .int .i64 n, tv, ov]] w fun e w' => ∃ v, e = .returned v ∧ Held w w' [aSt v (plainT ts.length (ts.length - 1))] := by
  have hT0 := hT
  have hO0 := hO
  obtain ⟨m, hm⟩ : ∃ m, ts.length = m := ⟨_, rfl⟩
  obtain ⟨aV, cV, rfl, hcT1, hcT2⟩ := hT.val
  obtain ⟨aO, cO, rfl, hcO1, hcO2⟩ := hO.val
  rw [List.length_map, hm] at hT hT0 hcT1
  rw [List.length_map, hm]
  have hm12 : m ≤ 12 := by rw [← hm]; exact hN.len
  have hop12 : op.length ≤ 12 := hN.rank
  have HM := Lib.hid hm; have HR := Lib.hid hr; have HN := Lib.hid hN; have HD3 := Lib.hid hN.dims3; clear hm hr hN
  have hTl : Hid ((ts.map (tenOf dm)).length = m) := Lib.hid (by rw [List.length_map]; exact HM.out)
  have HP0 : Hid (plainT m 0 = []) := Lib.hid rfl
  have HPS := Lib.hid (plainC_succ m)
  have HPA : Hid (∀ q : Nat, plainAt m q = if q = 0 then (0, 1) else ((q : Int) + 1, (m : Int) + q - 1)) := Lib.hid fun q => rfl
  have HPL := Lib.hid (plainT_len m)
  obtain ⟨PT, hPT⟩ : ∃ f, plainT m = f := ⟨_, rfl⟩
  rw [hPT] at HP0 HPS HPL ⊢
  clear hPT
  go_enter Try.func68, Try.ntmps68
  go_upto_region 1 with fail
  have hH : Held w w [] := Held.new (Ext.refl w) 0
  have hB : Held w (w.alloc (.cells #[.int .i64 k, .int .i64 p, .int .i64 n, .slice aV m cV, .slice aO op.length cO] 29)) [aB (w.heap.size) 29 [.int .i64 k, .int .i64 p, .int .i64 n, .slice aV m cV, .slice aO op.length cO]] := by
    have h := (hH.mores 1).addB 0 #[.int .i64 k, .int .i64 p, .int .i64 n, .slice aV m cV, .slice aO op.length cO] 29
    exact h
  have hsz : (w.alloc (.cells #[.int .i64 k, .int .i64 p, .int .i64 n, .slice aV m cV, .slice aO op.length cO] 29)).heap.size = w.heap.size + 1 := by simp
  generalize w.alloc (.cells #[.int .i64 k, .int .i64 p, .int .i64 n, .slice aV m cV, .slice aO op.length cO] 29) = wn1 at hB hsz ⊢
  replace hH := hB; have HSZwn1 := Lib.hid hsz; clear hB hsz
  have q0_0 := hH.cl 0 0 rfl rfl; have q0_1 := hH.cl 0 1 rfl rfl; have q0_2 := hH.cl 0 2 rfl rfl; have q0_3 := hH.cl 0 3 rfl rfl; have q0_4 := hH.cl 0 4 rfl rfl; have l0_ := hH.bl 0 rfl
  go_wp2_with fail
  clear q0_0 q0_1 q0_2 q0_3 q0_4 l0_
  refine (networkOk_any HR.out HN.out _ _ _ (hT0.ext hH.ext) (hO0.ext hH.ext)).mono ?_; rintro e0 w0 ⟨rfl, h0⟩
  replace hH := hH.grow h0
  replace hH := hH.nilR 138 2
  replace hH : Held w w0 [aB (w.heap.size) 29 [.int .i64 k, .int .i64 p, .int .i64 n, .slice aV m cV, .slice aO op.length cO], aR 138 2 (.slice none 0 0) 0 []] := hH
  have q0_0 := hH.cl 0 0 rfl rfl; have q0_1 := hH.cl 0 1 rfl rfl; have q0_2 := hH.cl 0 2 rfl rfl; have q0_3 := hH.cl 0 3 rfl rfl; have q0_4 := hH.cl 0 4 rfl rfl; have l0_ := hH.bl 0 rfl
  go_wp2_with fail
  clear q0_0 q0_1 q0_2 q0_3 q0_4 l0_
  go_loopw [3, 5] (fun vl i wr => ∃ (q : Nat) (al : Option Addr) (cl : Nat), q ≤ m - 1 ∧ i = .int .i64 (q : Int) ∧ vl = .slice al q cl ∧ Held w wr [aB (w.heap.size) 29 [.int .i64 k, .int .i64 p, .int .i64 n, .slice aV m cV, .slice aO op.length cO], aR 138 2 (.slice al q cl) q ((PT q).flatMap cellsP)]) (fun vl i wr => m - 1 - (RowKit.intOf i).toNat)
  case atStart => exact ⟨0, none, 0, Nat.zero_le _, rfl, rfl, by rw [HP0.out]; exact hH⟩
  case round =>
    clear hH
    obtain ⟨q, al, cl, hq, rfl, rfl, hH⟩ := hrel
    by_cases hlt : (q : Int) < (m : Int) - 1
    · skip
      have hps := HPS.out q; rw [HPA.out q] at hps
      by_cases hz : q = 0
      · skip
        rw [if_pos hz] at hps
        have HPQ := Lib.hid hps; clear hps
        have hbe : ((q : Int) == 0) = true := by rw [beq_iff_eq]; omega
        have hzi : (q : Int) = 0 := by omega
        clear hz hzi
        have q0_0 := hH.cl 0 0 rfl rfl; have q0_1 := hH.cl 0 1 rfl rfl; have q0_2 := hH.cl 0 2 rfl rfl; have q0_3 := hH.cl 0 3 rfl rfl; have q0_4 := hH.cl 0 4 rfl rfl; have l0_ := hH.bl 0 rfl
        go_wp2_with (at_builtin; refine wpList_app _ rfl _ _ 72 rfl _ _ rfl rfl _ (run_pushSt _ (hH.grow ((Ext.refl _).alloc _)) (n := q) (k := 1) rfl (row_one2 _ _ _ _) rfl rfl (by omega)) ?_; rintro vp wp ⟨hHp, gp, rp⟩; obtain ⟨ap, cp, rfl, _, _⟩ := rp.val)
        go_roundw
        case rel => exact ⟨q + 1, _, _, by omega, by go_num, rfl, by rw [HPQ.out]; exact hHp⟩
        case measure => simp [RowKit.intOf]; omega
      · skip
        rw [if_neg hz] at hps
        have HPQ := Lib.hid hps; clear hps
        have hbe : ((q : Int) == 0) = false := by rw [beq_eq_false_iff_ne]; omega
        have hzi : ¬ (q : Int) = 0 := by omega
        have q0_0 := hH.cl 0 0 rfl rfl; have q0_1 := hH.cl 0 1 rfl rfl; have q0_2 := hH.cl 0 2 rfl rfl; have q0_3 := hH.cl 0 3 rfl rfl; have q0_4 := hH.cl 0 4 rfl rfl; have l0_ := hH.bl 0 rfl
        go_wp2_with (at_builtin; refine wpList_app _ rfl _ _ 72 rfl _ _ rfl rfl _ (run_pushSt _ (hH.grow ((Ext.refl _).alloc _)) (n := q) (k := 1) rfl (row_one2 _ _ _ _) rfl rfl (by omega)) ?_; rintro vp wp ⟨hHp, gp, rp⟩; obtain ⟨ap, cp, rfl, _, _⟩ := rp.val)
        go_roundw
        case rel => exact ⟨q + 1, _, _, by omega, by go_num, rfl, by rw [HPQ.out]; exact hHp⟩
        case measure => simp [RowKit.intOf]; omega
    · skip
      have hqe : q = m - 1 := by omega
      have HQE := Lib.hid hqe; clear hqe
      have hH2 := hH.sub (L' := [aR 138 2 (.slice al q cl) q ((PT q).flatMap cellsP)]) (.cons _ (.cons_cons _ .slnil))
      have HH2 := Lib.hid hH2; clear hH hH2
      go_wp2
      go_ret
      exact ⟨_, rfl, by unfold aSt; rw [← HQE.out, HPL.out]; exact HH2.out⟩
end Go.Proofs.Ytpegckmagiaggaa

/- Finishing, plain: a tensor that sums up a network gives its value; the plain order is valid. No program in sight. -/
namespace Go.Proofs.Ytpegckmagiaggaa
open Go.RowKit
section
variable {k p n : Int} (hr : ringOk k p n = true)
variable {dm : Int → Int} {U : List Int}
theorem sums_sum {a keep : List Int} {xs : List (El k p n)} (ha : IsT k p n dm U a xs) : Sums1 k p n hr dm (keepL a keep) (sumXs hr dm a keep xs) [(a, xs)] keep := by
  have hocc : ∀ x, x ∈ occ [(a, xs)] ↔ x ∈ a := fun x => by rw [show occ [(a, xs)] = a ++ [] from rfl, List.append_nil]
  refine ⟨fun x => by rw [mem_keepL, hocc], fun τ hf => ?_⟩
  have hp : a.Perm (ascL (occ [(a, xs)])) := by
    refine (List.perm_ext_iff_of_nodup ha.sub.nodup (ascL_nodup _)).2 fun x => ?_
    rw [mem_ascL, hocc]
    exact ⟨fun h => ⟨ha.uni.labs (ha.sub.sub x h), h⟩, fun h => h.2⟩
  rw [show sumXs hr dm a keep xs = tab (axs dm (keepL a keep)) (contrF (rig hr) dm a keep (valT hr dm a xs)) σ0 from rfl, valT_tab hr (contrF_dep (rig hr) (valT_dep hr dm a xs)) hf]
  unfold netG
  rw [contrF_perm (rig hr) ha.sub hp]
  refine sumA_ext (rig hr) _ _ fun υ => ?_
  rw [netF_cons, netF_nil, (rig hr).mul_one]
theorem fin_sums {L op K : List Int} {ys : List (El k p n)} {ts : List (NT k p n)} (hI : IsT k p n dm U L ys) (so : Sub U op) (hs : Sums1 k p n hr dm L ys ts K) (h1 : ∀ x ∈ occ ts, x ∈ U) (hK : ∀ x ∈ occ ts, x ∈ K) (ho : ∀ x ∈ op, x ∈ L) : finXs hr dm L op ys = netXs hr dm ts op := by
  have h := Sums1.trans hr (t2 := []) (sums_sum hr hI (keep := op)) hs (fun x hx => hI.uni.labs (h1 x hx)) (fun x hx hn => absurd (hK x hx) hn) (fun x hx => by simp [occ] at hx)
  rw [List.append_nil] at h
  refine Sums1.done hr hI.uni so h ((List.perm_ext_iff_of_nodup (hI.sub.keep op).nodup so.nodup).2 fun x => ?_)
  rw [mem_keepL]
  exact ⟨fun h => h.2, fun h => ⟨ho x h, h⟩⟩
theorem fin_one {L op : List Int} {ys : List (El k p n)} (hI : IsT k p n dm U L ys) (so : Sub U op) (ho : ∀ x ∈ op, x ∈ L) : finXs hr dm L op ys = netXs hr dm [(L, ys)] op := by
  have e : occ [(L, ys)] = L := by rw [show occ [(L, ys)] = L ++ [] from rfl, List.append_nil]
  exact fin_sums hr hI so (Sums1.one hr (K := L) fun x h => h) (fun x hx => by rw [e] at hx; exact hI.sub.sub x hx) (fun x hx => by rwa [e] at hx) ho
theorem contrXs_all (dm : Int → Int) {a b K : List Int} (h : ∀ x ∈ joinL a b, x ∈ K) (xs ys : List (El k p n)) : contrXs hr dm a b K xs ys = contrXs hr dm a b (joinL a b) xs ys := by
  have e : goneL (joinL a b) K = goneL (joinL a b) (joinL a b) := by
    unfold goneL
    apply List.filter_congr
    intro x hx
    rw [(hasL_iff _ _).2 (h x hx), (hasL_iff _ _).2 hx]
  unfold contrXs contrF
  rw [keepL_all h, keepL_all (fun x hx => hx), e]
def joinT (dm : Int → Int) (a t : NT k p n) : NT k p n := (joinL a.1 t.1, contrXs hr dm a.1 t.1 (joinL a.1 t.1) a.2 t.2)
theorem joinT_isT {a t : NT k p n} (ha : IsT k p n dm U a.1 a.2) (ht : IsT k p n dm U t.1 t.2) : IsT k p n dm U (joinT hr dm a t).1 (joinT hr dm a t).2 := by
  have h := contr_isT hr ha ht (joinL a.1 t.1)
  rw [keepL_all (fun x hx => hx)] at h
  exact h
theorem join_sums {a t : NT k p n} {ts : List (NT k p n)} (ha : IsT k p n dm U a.1 a.2) (ht : IsT k p n dm U t.1 t.2) (hs : Sums1 k p n hr dm a.1 a.2 ts U) (h1 : ∀ x ∈ occ ts, x ∈ U) : Sums1 k p n hr dm (joinT hr dm a t).1 (joinT hr dm a t).2 (ts ++ [t]) U := by
  have hc := sums_contr hr ha ht (keep := joinL a.1 t.1)
  rw [keepL_all (fun x hx => hx)] at hc
  have hoc : ∀ x ∈ occ [(a.1, a.2), (t.1, t.2)], x ∈ joinL a.1 t.1 := fun x hx => by
    rw [show occ [(a.1, a.2), (t.1, t.2)] = a.1 ++ (t.1 ++ []) from rfl, List.append_nil, List.mem_append] at hx
    rw [mem_joinL]; exact hx
  have hc2 : Sums1 k p n hr dm (joinT hr dm a t).1 (joinT hr dm a t).2 ((a.1, a.2) :: [(t.1, t.2)]) U := Sums1.keep hr hc fun x hx => ⟨fun h => (ha.sub.join ht.sub).sub x h, fun _ => hoc x hx⟩
  refine Sums1.trans hr hc2 hs (fun x hx => ha.uni.labs (h1 x hx)) (fun x hx hn => absurd (h1 x hx) hn) fun x hx => ?_
  rw [show occ [(t.1, t.2)] = t.1 ++ [] from rfl, List.append_nil] at hx
  exact ha.uni.labs (ht.sub.sub x hx)
theorem ascL_nil : ascL [] = [] := by unfold ascL; simp [hasL]
theorem sums_nil (dm : Int → Int) (U : List Int) : Sums1 k p n hr dm [] [(rig hr).one] [] U := by
  refine ⟨fun x => by simp [occ], fun τ _ => ?_⟩
  unfold netG contrF
  rw [show occ ([] : List (NT k p n)) = [] from rfl, ascL_nil]
  rfl
def joinAllT (dm : Int → Int) (ts : List (NT k p n)) : NT k p n := ts.foldl (joinT hr dm) ([], [(rig hr).one])
theorem joinAllT_snoc (dm : Int → Int) (ts : List (NT k p n)) (t : NT k p n) : joinAllT hr dm (ts ++ [t]) = joinT hr dm (joinAllT hr dm ts) t := by
  unfold joinAllT; rw [List.foldl_append]; rfl
theorem joinAllT_go (u : Uni dm U) : ∀ (ts a : List (NT k p n)), (∀ t ∈ ts, IsT k p n dm U t.1 t.2) → (∀ t ∈ a, IsT k p n dm U t.1 t.2) → ∀ x : NT k p n, IsT k p n dm U x.1 x.2 → Sums1 k p n hr dm x.1 x.2 a U →
    IsT k p n dm U (ts.foldl (joinT hr dm) x).1 (ts.foldl (joinT hr dm) x).2 ∧ Sums1 k p n hr dm (ts.foldl (joinT hr dm) x).1 (ts.foldl (joinT hr dm) x).2 (a ++ ts) U
  | [], a, _, _, x, h1, h2 => by rw [List.append_nil]; exact ⟨h1, h2⟩
  | t :: ts, a, h, ha, x, h1, h2 => by
    have ht := h t (by simp)
    have h3 := joinAllT_go u ts (a ++ [t]) (fun s hs => h s (by simp [hs])) (fun s hs => by
      rcases List.mem_append.1 hs with hs | hs
      · exact ha s hs
      · simp at hs; subst hs; exact ht) (joinT hr dm x t) (joinT_isT hr h1 ht) (join_sums hr h1 ht h2 fun y hy => by
        obtain ⟨s, hs, hy⟩ := mem_occ.1 hy
        exact (ha s hs).sub.sub y hy)
    rw [List.append_assoc] at h3
    exact h3
theorem joinAllT_ok (u : Uni dm U) (ts : List (NT k p n)) (h : ∀ t ∈ ts, IsT k p n dm U t.1 t.2) : IsT k p n dm U (joinAllT hr dm ts).1 (joinAllT hr dm ts).2 ∧ Sums1 k p n hr dm (joinAllT hr dm ts).1 (joinAllT hr dm ts).2 ts U :=
  joinAllT_go hr u ts [] h (fun t ht => by cases ht) ([], [(rig hr).one]) (one_isT hr u) (sums_nil hr dm U)
theorem joinAllT_lab (u : Uni dm U) {ts : List (NT k p n)} (h : ∀ t ∈ ts, IsT k p n dm U t.1 t.2) {x : Int} (hx : x ∈ occ ts) : x ∈ (joinAllT hr dm ts).1 := by
  rw [(joinAllT_ok hr u ts h).2.lab]
  obtain ⟨y, hy, hx2⟩ := mem_occ.1 hx
  exact ⟨hx, (h y hy).sub.sub x hx2⟩
theorem fin_all {ts : List (NT k p n)} {op : List Int} (h : IsN k p n dm U ts op) : finXs hr dm (joinAllT hr dm ts).1 op (joinAllT hr dm ts).2 = netXs hr dm ts op := by
  obtain ⟨h1, h2⟩ := joinAllT_ok hr h.uni ts h.ten
  exact fin_sums hr h1 h.sub h2 (fun x hx => h.occU hx) (fun x hx => h.occU hx) fun x hx => joinAllT_lab hr h.uni h.ten (h.occ x hx)
theorem net_nil (dm : Int → Int) (op : List Int) (h : ∀ x ∈ op, x ∈ occ ([] : List (NT k p n))) : op = [] ∧ netXs hr dm ([] : List (NT k p n)) op = [(rig hr).one] := by
  have e : op = [] := List.eq_nil_iff_forall_not_mem.2 fun x hx => by have := h x hx; simp [occ] at this
  subst e
  refine ⟨rfl, ?_⟩
  unfold netXs netG contrF
  rw [show occ ([] : List (NT k p n)) = [] from rfl, ascL_nil]
  rfl
end
def okB : List Int → Int → List (Int × Int) → Bool
  | _, _, [] => true
  | ns, nx, s :: r => hasL ns s.1 && (hasL ns s.2 && (decide (s.1 < s.2) && okB (numStep ns nx s) (nx + 1) r))
theorem okB_ok : ∀ {r : List (Int × Int)} {ns : List Int} {nx : Int}, okB ns nx r = true → okO ns nx r
  | [], _, _, _ => trivial
  | s :: r, ns, nx, h => by
    unfold okB at h
    rw [Bool.and_eq_true, Bool.and_eq_true, Bool.and_eq_true] at h
    exact ⟨(hasL_iff _ _).1 h.1, (hasL_iff _ _).1 h.2.1, of_decide_eq_true h.2.2.1, okB_ok h.2.2.2⟩
theorem plain_okB : (List.range 13).all (fun m => okB (numL m) (m : Int) (plainT m (m - 1))) = true := by kernel_rfl
theorem plain_ok {m : Nat} (h : m ≤ 12) : okO (numL m) (m : Int) (plainT m (m - 1)) :=
  okB_ok (List.all_eq_true.1 plain_okB m (List.mem_range.2 (by omega)))
end Go.Proofs.Ytpegckmagiaggaa
