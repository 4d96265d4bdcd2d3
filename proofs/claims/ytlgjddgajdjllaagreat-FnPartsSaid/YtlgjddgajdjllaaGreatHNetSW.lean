/- l12Dims, NetworkOk, l12Weight of the reference. -/
import Derived.Test.YtlgjddgajdjllaaGreatHNetVX
import Derived.Test.YtlgjddgajdjllaaGreatHL06W
set_option linter.unusedSimpArgs false
set_option linter.unusedVariables false
set_option maxRecDepth 100000
set_option maxHeartbeats 8000000
namespace Go.Proofs.YtlgjddgajdjllaaGreat
open Go.RowKit
theorem offGo_map {dm : Int → Int} : ∀ {L : List Int} (σ : Int → Int) (n : Int), (∀ l ∈ L, 1 ≤ dm l) → (∀ l ∈ L, 0 ≤ σ l) → offGo n (L.map dm) (L.map σ) = n * (size (axs dm L) : Int) + (off (axs dm L) σ : Int)
  | [], σ, n, _, _ => by simp [offGo, axs, size, off]
  | l :: L, σ, n, h, hs => by
    have h1 := h l (by simp)
    have h2 := hs l (by simp)
    rw [List.map_cons, List.map_cons, offGo, offGo_map σ _ (fun x hx => h x (by simp [hx])) (fun x hx => hs x (by simp [hx])), axs_cons, size, off, Int.natCast_mul, Int.natCast_add, Int.natCast_mul, Int.toNat_of_nonneg (by omega), Int.toNat_of_nonneg h2, Int.add_mul, Int.mul_assoc, Int.add_assoc]
theorem offL_map {dm : Int → Int} {L : List Int} {σ : Int → Int} (h : ∀ l ∈ L, 1 ≤ dm l) (hs : ∀ l ∈ L, 0 ≤ σ l) : offL (L.map dm) (L.map σ) = (off (axs dm L) σ : Int) := by
  unfold offL
  rw [offGo_map σ 0 h hs]; omega
theorem idxOk_map {dm σ : Int → Int} : ∀ {L : List Int}, (∀ l ∈ L, 0 ≤ σ l ∧ σ l < dm l) → idxOk (L.map dm) (L.map σ) = true
  | [], _ => rfl
  | l :: L, h => by
    have h1 := h l (by simp)
    rw [List.map_cons, List.map_cons, idxOk, idxOk_map fun x hx => h x (by simp [hx])]
    simp [h1.1, h1.2]
theorem find_nat {l : List Int} {x : Int} (h : x ∈ l) : ∃ f : Nat, findL l x = (f : Int) ∧ l[f]? = some x := by
  obtain ⟨j, a, _, c, _⟩ := map_get_find (dm := id) h
  exact ⟨j, a, c⟩
theorem TensS.takeS {w : World} {a : Option Addr} {n cap : Nat} {ts : List Ten3} (h : TensS w (.slice a n cap) ts) {j : Nat} (hj : j ≤ ts.length) : TensS w (.slice a j cap) (ts.take j) := by
  obtain ⟨cs, hl, hr, hs⟩ := h.has
  obtain ⟨a', cap', hv, h1, h2, h3⟩ := hr.val
  cases hv
  have e : cs.flatMap cells3 = (cs.take j).flatMap cells3 ++ (cs.drop j).flatMap cells3 := by rw [← List.flatMap_append, List.take_append_drop]
  have hlen : (ts.take j).length = j := by rw [List.length_take]; omega
  have len3 : ∀ l : List (Value × Value × Value), (l.flatMap cells3).length = l.length * 3 := by
    intro l
    induction l with
    | nil => rfl
    | cons x l ih => rw [List.flatMap_cons, List.length_append, ih, List.length_cons]; simp [cells3]; omega
  refine ⟨cs.take j, by rw [List.length_take, List.length_take, hl], ?_, fun i c t hc ht => ?_⟩
  · rw [hlen]
    refine ⟨by rw [len3, List.length_take]; omega, a, cap, rfl, by omega, h2, fun hp => ?_⟩
    obtain ⟨b, off, hb, hc⟩ := h3 (by rw [e, List.length_append]; omega)
    refine ⟨b, off, hb, fun i u hi => hc i u ?_⟩
    rw [e, List.getElem?_append_left (List.getElem?_eq_some_iff.1 hi).1, hi]
  · have hi : i < j := by have := (List.getElem?_eq_some_iff.1 ht).1; omega
    rw [List.getElem?_take_of_lt hi] at hc ht
    exact hs i c t hc ht
theorem Dims3.take {dm : Int → Int} {T : List Ten3} (h : Dims3 dm T) (j : Nat) : Dims3 dm (T.take j) :=
  ⟨fun t ht => h.dims t (List.mem_of_mem_take ht), fun t ht => h.labs t (List.mem_of_mem_take ht), fun t ht => h.rank t (List.mem_of_mem_take ht)⟩
section
variable {k p n : Int} (hr : ringOk k p n = true) {W : Nat} (hW : ringWidth k n = (W : Int))
include hW
theorem read_off {dm : Int → Int} {U L : List Int} {xs : List (El k p n)} (h : IsT k p n dm U L xs) {τ : Int → Int} (hf : ∀ l ∈ L, 0 ≤ τ l ∧ τ l < dm l) :
    ∃ q : Nat, offL (L.map dm) (L.map τ) = (q : Int) ∧ q ≤ 4096 ∧ q * W + W ≤ (flat xs).length ∧ getL (flat xs) (q * W) W = (valT hr dm L xs τ).1 := by
  have hf2 : Fits (axs dm L) τ := fun a ha => by
    obtain ⟨l, hl, rfl⟩ := List.mem_map.1 ha
    exact hf l hl
  have hd : ∀ l ∈ L, 1 ≤ dm l := fun l hl => (h.uni.dim (h.sub.sub l hl)).1
  have hq := off_lt hf2
  have hs := h.small
  refine ⟨off (axs dm L) τ, offL_map hd fun l hl => (hf l hl).1, by have := (h.uni.small h.sub).1; omega, ?_, flat_get hW (valT_get hr h.len hf2)⟩
  rw [flat_length hW, h.len]
  have : (off (axs dm L) τ + 1) * W ≤ size (axs dm L) * W := Nat.mul_le_mul_right _ (by omega)
  rw [Nat.add_mul, Nat.one_mul] at this
  exact this
end
theorem l12Dims_any {dm : Int → Int} {T : List Ten3} (hd : Dims3 dm T) (hm : T.length ≤ 1000) {L : List Int} (hL : ∀ x ∈ L, x ∈ occ3 T) (hlen : L.length ≤ 1000) (v lv : Value) (w : World) (hv : TensS w v T) (hlv : IntS w lv L) :
 Calls Tryz.prog 64 #[v, lv] w fun e w' => ∃ u, e = .returned u ∧ OwnI w' w.heap.size u (L.map dm) ∧ Ext w w' := by
 have hv0 := hv
 obtain ⟨aV, cV, rfl, hcV1, hcV2⟩ := hv.val
 obtain ⟨aL, cL, rfl, hcL1, hcL2⟩ := hlv.val
 have HD := Lib.hid hd; have HV := Lib.hid hv0; have HL := Lib.hid hL; clear hd hv0 hv hL
 go_enter Tryz.func64, Tryz.ntmps64
 go_wp2_with fail
 have hH : Held w _ [aI _ []] := (Held.new (Ext.refl w) 1).built 0 [] 0 rfl (by simp [maxLen]) #[] rfl
 go_loopw [5, 11] (fun vs i wr => ∃ j : Nat, j ≤ L.length ∧ i = .int .i64 (j : Int) ∧ Held w wr [aI vs ((L.take j).map dm)]) (fun vs i wr => L.length - (RowKit.intOf i).toNat)
 case atStart => exact ⟨0, Nat.zero_le _, rfl, hH⟩
 clear hH
 rename_i vs
 obtain ⟨j, hj, rfl, hH⟩ := hrel
 obtain ⟨S, hS⟩ : ∃ q, (L.take j).map dm = q := ⟨_, rfl⟩
 rw [hS] at hH
 have hSl : S.length ≤ 1000 := by rw [← hS, List.length_map, List.length_take]; omega
 have HS := Lib.hid hS; clear hS
 obtain ⟨aS, cS, hvs, _, _⟩ := (hH.ints (k := 0) rfl).val
 subst hvs
 by_cases hlt : j < L.length
 ·
  obtain ⟨bL, oL, x, rfl, hcx, hx, _⟩ := hlv.get hlt
  have hcx2 := hH.ext.cell hcx
  have HS2 := Lib.hid (show (L.take (j + 1)).map dm = S ++ [dm x] by rw [take_snoc' hx, List.map_append, HS.out]; rfl)
  have HXO := Lib.hid (HL.out x (List.mem_of_getElem? hx))
  clear hx hcx
  go_wp2_with fail
  refine (l12Dim_any HD.out (by omega) x _ _ (HV.out.ext hH.ext)).mono ?_; rintro e1 w1 ⟨rfl, h1⟩
  rw [if_pos ((hasL_iff _ _).2 HXO.out)]
  replace hH : Held w w1 [aI (.slice aS S.length cS) S] := hH.grow h1
  clear h1 hcx2
  go_wp2_with (at_builtin; refine wpList_app _ rfl _ _ 27 rfl _ _ rfl rfl _ (run_push _ _ w.heap.size _ S (dm x) (hH.own (k := 0) rfl) (by omega) (by have := hH.size; omega)) ?_; rintro v2 w2 ⟨o2, g2, n2⟩)
  go_roundw
  case rel => exact ⟨j + 1, by omega, by go_num, by have h := hH.pushed (k := 0) rfl o2 g2 n2; rw [← HS2.out] at h; exact h⟩
  case measure => simp [RowKit.intOf]; omega
 have hje : j = L.length := by omega
 subst hje
 have hT := HS.out; rw [List.take_length] at hT
 have HO := Lib.hid (hH.own (k := 0) rfl); have HE := Lib.hid hH.ext; clear hH
 have HT := Lib.hid hT; clear hT
 go_wp2
 go_ret
 exact ⟨_, rfl, by rw [HT.out]; exact HO.out, HE.out⟩
theorem networkOk_spec {k p n : Int} (hr : ringOk k p n = true) {dm : Int → Int} {U : List Int} {ts : List (NT k p n)} {op : List Int} (hN : IsN k p n dm U ts op) (tv ov : Value) (w : World) (hT : TensS w tv (ts.map (tenOf dm))) (hO : IntS w ov op) :
 Calls Tryz.prog 63 #[.agg #[.int .i64 k, .int .i64 p, .int .i64 n, tv, ov]] w fun e w' => e = .returned (.bool true) ∧ Ext w w' := by
 obtain ⟨m, aV, cV, aO, cO, rfl, rfl, hcT1, hcT2, hcO1, hcO2, hm12, hop12, HM, HD3, hTl⟩ := net_in hN hT hO
 have hT0 := hT; have hO0 := hO; have HR := Lib.hid hr; have HN := Lib.hid hN; clear hr hN; try rw [HM.out]
 go_enter Tryz.func63, Tryz.ntmps63
 go_upto_region 1 with fail
 have hH : Held w w [] := Held.new (Ext.refl w) 0
 obtain ⟨hB, hsz⟩ := hH.laid #[.int .i64 k, .int .i64 p, .int .i64 n, .slice aV m cV, .slice aO op.length cO] 29
 generalize w.alloc (.cells #[.int .i64 k, .int .i64 p, .int .i64 n, .slice aV m cV, .slice aO op.length cO] 29) = wn1 at hB hsz ⊢
 replace hH : Held w wn1 [nB w.heap.size k p n aV m cV aO op.length cO] := hB
 have HSZwn1 := Lib.hid (show wn1.heap.size = w.heap.size + 1 by rw [hsz]); clear hB hsz
 have hb12 : ¬ (12 : Int) < (m : Int) := by omega
 have hbo12 : ¬ (12 : Int) < (op.length : Int) := by omega
 obtain ⟨q0_0, q0_1, q0_2, q0_3, q0_4, l0_⟩ := hH.c5 0 rfl
 go_wp2_with fail
 clear q0_0 q0_1 q0_2 q0_3 q0_4 l0_
 refine (ringOk_spec k p n _).mono ?_; rintro ewn2 wn2 ⟨rfl, hwn2⟩
 rw [HR.out]
 replace hH : Held w wn2 [nB w.heap.size k p n aV m cV aO op.length cO] := hH.grow hwn2
 clear hwn2
 obtain ⟨q0_0, q0_1, q0_2, q0_3, q0_4, l0_⟩ := hH.c5 0 rfl
 go_wp2_with fail
 clear q0_0 q0_1 q0_2 q0_3 q0_4 l0_
 clear hb12 hbo12
 go_loopw [21] (fun i wr => ∃ j : Nat, j ≤ m ∧ i = .int .i64 (j : Int) ∧ Held w wr [nB w.heap.size k p n aV m cV aO op.length cO]) (fun i wr => m - (RowKit.intOf i).toNat)
 case atStart => exact ⟨0, Nat.zero_le _, rfl, hH⟩
 clear hH
 obtain ⟨j, hj, rfl, hH⟩ := hrel
 by_cases hlt : j < m
 ·
  obtain ⟨wq, rfl⟩ : ∃ q, q = wr := ⟨wr, rfl⟩
  obtain ⟨bT, oT, tl, xs, e1, f1, e2, f2, e3, m3, f3, hV, HTJ, HTI, hu0, hu1, hu2, hTu, hTL, hTD, hTX, _, _, _, _⟩ := hT.ten HN.out.ten (j := j) (by rw [hTl.out]; exact hlt); subst hV
  obtain ⟨q0_0, q0_1, q0_2, q0_3, q0_4, l0_⟩ := hH.c5 0 rfl; have c_hu0 := hH.ext.cell hu0; have c_hu1 := hH.ext.cell hu1; have c_hu2 := hH.ext.cell hu2
  go_upto_region 6 with fail
  clear q0_0 q0_1 q0_2 q0_3 q0_4 l0_ c_hu0 c_hu1 c_hu2
  obtain ⟨hB, hsz⟩ := hH.laid #[.slice e1 tl.length f1, .slice e2 tl.length f2, .slice e3 m3 f3] 35
  generalize wq.alloc (.cells #[.slice e1 tl.length f1, .slice e2 tl.length f2, .slice e3 m3 f3] 35) = wn3 at hB hsz ⊢
  replace hH : Held w wn3 [nB w.heap.size k p n (some ⟨bT, oT, none⟩) m cV aO op.length cO, tB wq.heap.size e1 tl.length f1 e2 tl.length f2 e3 m3 f3] := hB
  have HSZwn3 := Lib.hid (show wn3.heap.size = wq.heap.size + 1 by rw [hsz]); clear hB hsz
  obtain ⟨q0_0, q0_1, q0_2, q0_3, q0_4, l0_⟩ := hH.c5 0 rfl; obtain ⟨q1_0, q1_1, q1_2, l1_⟩ := hH.c3 1 rfl; have c_hu0 := hH.ext.cell hu0; have c_hu1 := hH.ext.cell hu1; have c_hu2 := hH.ext.cell hu2
  go_wp2_with fail
  clear q0_0 q0_1 q0_2 q0_3 q0_4 l0_ q1_0 q1_1 q1_2 l1_ c_hu0 c_hu1 c_hu2
  refine (tensorOk_spec k p n _ tl (tl.map dm) (flat xs) _ (hTu.ext hH.ext)).mono ?_; rintro ewn4 wn4 ⟨rfl, hwn4⟩
  rw [HTI.out.yes HR.out]
  replace hH : Held w wn4 [nB w.heap.size k p n (some ⟨bT, oT, none⟩) m cV aO op.length cO, tB wq.heap.size e1 tl.length f1 e2 tl.length f2 e3 m3 f3] := hH.grow hwn4
  clear hwn4
  obtain ⟨q0_0, q0_1, q0_2, q0_3, q0_4, l0_⟩ := hH.c5 0 rfl; obtain ⟨q1_0, q1_1, q1_2, l1_⟩ := hH.c3 1 rfl; have c_hu0 := hH.ext.cell hu0; have c_hu1 := hH.ext.cell hu1; have c_hu2 := hH.ext.cell hu2
  go_wp2_with fail
  clear q0_0 q0_1 q0_2 q0_3 q0_4 l0_ q1_0 q1_1 q1_2 l1_ c_hu0 c_hu1 c_hu2
  go_loopw [34] (fun i wr => ∃ q : Nat, q ≤ tl.length ∧ i = .int .i64 (q : Int) ∧ Held w wr [nB w.heap.size k p n (some ⟨bT, oT, none⟩) m cV aO op.length cO, tB wq.heap.size e1 tl.length f1 e2 tl.length f2 e3 m3 f3]) (fun i wr => tl.length - (RowKit.intOf i).toNat)
  case atStart => exact ⟨0, Nat.zero_le _, rfl, hH⟩
  clear hH
  obtain ⟨q, hq, rfl, hH⟩ := hrel
  by_cases hlt2 : q < tl.length
  ·
   obtain ⟨bE, oE, x, rfl, hce, hx, _⟩ := hTL.get hlt2
   obtain ⟨bD, oD, y, rfl, hcd, hy, _⟩ := hTD.get (i := q) (by simpa using hlt2)
   obtain rfl : y = dm x := by rw [List.getElem?_map, hx] at hy; exact (Option.some.inj hy).symm
   have HXM := Lib.hid (List.mem_of_getElem? hx)
   have hdx : 1 ≤ dm x := (HTI.out.uni.dim (HTI.out.sub.sub x HXM.out)).1
   have hjc : (j : Int) ≤ (cV : Int) := by omega
   have hj0 : (0 : Int) ≤ (j : Int) := by omega
   have HTK := Lib.hid (hT.takeS (j := j) (by rw [hTl.out]; omega))
   clear hx hy
   obtain ⟨q0_0, q0_1, q0_2, q0_3, q0_4, l0_⟩ := hH.c5 0 rfl; obtain ⟨q1_0, q1_1, q1_2, l1_⟩ := hH.c3 1 rfl; have c_hu0 := hH.ext.cell hu0; have c_hu1 := hH.ext.cell hu1; have c_hu2 := hH.ext.cell hu2; have c_hce := hH.ext.cell hce; have c_hcd := hH.ext.cell hcd
   go_wp2_with fail
   clear q0_0 q0_1 q0_2 q0_3 q0_4 l0_ q1_0 q1_1 q1_2 l1_ c_hu0 c_hu1 c_hu2 c_hce c_hcd
   refine (l12Dim_any (HD3.out.take j) (by rw [List.length_take, hTl.out]; omega) x _ _ (HTK.out.ext hH.ext)).mono ?_; rintro ewn5 wn5 ⟨rfl, hwn5⟩
   replace hH : Held w wn5 [nB w.heap.size k p n (some ⟨bT, oT, none⟩) m cV aO op.length cO, tB wq.heap.size (some ⟨bE, oE, none⟩) tl.length f1 (some ⟨bD, oD, none⟩) tl.length f2 e3 m3 f3] := hH.grow hwn5
   clear hwn5
   by_cases hox : hasL (occ3 ((ts.map (tenOf dm)).take j)) x = true
   · rw [if_pos hox]
     clear hox
     obtain ⟨q0_0, q0_1, q0_2, q0_3, q0_4, l0_⟩ := hH.c5 0 rfl; obtain ⟨q1_0, q1_1, q1_2, l1_⟩ := hH.c3 1 rfl; have c_hu0 := hH.ext.cell hu0; have c_hu1 := hH.ext.cell hu1; have c_hu2 := hH.ext.cell hu2; have c_hce := hH.ext.cell hce; have c_hcd := hH.ext.cell hcd
     go_wp2_with fail
     go_roundw
     case rel => exact ⟨q + 1, by omega, by go_num, hH⟩
     case measure => simp [RowKit.intOf]; omega
   rw [if_neg hox]
   clear hox
   obtain ⟨q0_0, q0_1, q0_2, q0_3, q0_4, l0_⟩ := hH.c5 0 rfl; obtain ⟨q1_0, q1_1, q1_2, l1_⟩ := hH.c3 1 rfl; have c_hu0 := hH.ext.cell hu0; have c_hu1 := hH.ext.cell hu1; have c_hu2 := hH.ext.cell hu2; have c_hce := hH.ext.cell hce; have c_hcd := hH.ext.cell hcd
   go_wp2_with fail
   go_roundw
   case rel => exact ⟨q + 1, by omega, by go_num, hH⟩
   case measure => simp [RowKit.intOf]; omega
  go_wp2_with fail
  go_roundw
  case rel => exact ⟨j + 1, by omega, by go_num, hH.sub (.cons_cons _ (.cons _ .slnil))⟩
  case measure => simp [RowKit.intOf]; omega
 obtain ⟨SZ, hSZ⟩ : ∃ q, tsize op (op.map dm) = q := ⟨_, rfl⟩
 have hsz0 : 0 ≤ SZ := by rw [← hSZ, (HN.out.uni.ax HN.out.sub).tsize]; have := (HN.out.uni.ax HN.out.sub).pos; omega
 have HSZ := Lib.hid hSZ; clear hSZ
 obtain ⟨wa, rfl⟩ : ∃ q, q = wr := ⟨wr, rfl⟩
 obtain ⟨q0_0, q0_1, q0_2, q0_3, q0_4, l0_⟩ := hH.c5 0 rfl
 go_upto_region 16 with fail
 clear q0_0 q0_1 q0_2 q0_3 q0_4 l0_
 replace hH := hH.mores 1
 replace hH : Held w wa [nB w.heap.size k p n aV m cV aO op.length cO, emp] := hH
 refine wp_region_steps ?Fa (fun b t wx => Held w wx [nB w.heap.size k p n aV m cV aO op.length cO, (bif b 6 then aI (t 6) (op.map dm) else emp)] ∧ (b 0 = true → t 0 = .pointer (some ⟨w.heap.size, 4, none⟩)) ∧ (b 1 = true → t 1 = .slice aO op.length cO) ∧ (b 2 = true → t 2 = .pointer (some ⟨w.heap.size, 3, none⟩)) ∧ (b 3 = true → t 3 = .slice aV m cV) ∧ (b 4 = true → t 4 = .pointer (some ⟨w.heap.size, 4, none⟩)) ∧ (b 5 = true → t 5 = .slice aO op.length cO) ∧ (b 6 = true → ∃ x c, t 6 = .slice x op.length c) ∧ (b 7 = true → t 7 = .agg #[.slice aO op.length cO, t 6, .slice none 0 0]) ∧ (b 8 = true → t 8 = .int .i64 SZ) ∧ (b 9 = true → t 9 = .bool true) ∧ (b 10 = true → t 10 = .bool true)) ?hFa (by kernel_rfl) (by kernel_rfl) ?hJa ?hSa ?hEa
 (case hFa => intro t; simp only [putAll, Act.put, List.setIfInBounds_toArray, List.set_cons_zero, List.set_cons_succ, Nat.reduceAdd, Nat.zero_add]; exact rfl)
 case hJa => exact ⟨hH.grow ((Ext.refl _).drew), nof, nof, nof, nof, nof, nof, nof, nof, nof, nof, nof⟩
 case hSa => as_aux_lemma =>
  refine st 1 rfl (fun b t wx hJ hb hd hcl Kc hK => ?_) ?_
  · obtain ⟨hH, hV⟩ := hJ
    go_simp
    apply sk hK
    · rfl
    exact ⟨hH, rp (fun _ => rfl) hV⟩
  refine st 2 rfl (fun b t wx hJ hb hd hcl Kc hK => ?_) ?_
  · obtain ⟨hH, hV⟩ := hJ
    have d0 := so hd 0; have r0 := hV.1 d0; have q0_4 := hH.cl 0 4 rfl rfl
    go_simp
    apply sk hK
    · (try simp only [r0]); rfl
    exact ⟨hH, jA (rp (fun _ => rfl)) hV⟩
  refine st 3 rfl (fun b t wx hJ hb hd hcl Kc hK => ?_) ?_
  · obtain ⟨hH, hV⟩ := hJ
    go_simp
    apply sk hK
    · rfl
    exact ⟨hH, jB (rp (fun _ => rfl)) hV⟩
  refine st 4 rfl (fun b t wx hJ hb hd hcl Kc hK => ?_) ?_
  · obtain ⟨hH, hV⟩ := hJ
    have d2 := so hd 2; have r2 := hV.2.2.1 d2; have q0_3 := hH.cl 0 3 rfl rfl
    go_simp
    apply sk hK
    · (try simp only [r2]); rfl
    exact ⟨hH, jB (jA (rp (fun _ => rfl))) hV⟩
  refine st 5 rfl (fun b t wx hJ hb hd hcl Kc hK => ?_) ?_
  · obtain ⟨hH, hV⟩ := hJ
    go_simp
    apply sk hK
    · rfl
    exact ⟨hH, jD (rp (fun _ => rfl)) hV⟩
  refine st 6 rfl (fun b t wx hJ hb hd hcl Kc hK => ?_) ?_
  · obtain ⟨hH, hV⟩ := hJ
    have d4 := so hd 4; have r4 := hV.2.2.2.2.1 d4; have q0_4 := hH.cl 0 4 rfl rfl
    go_simp
    apply sk hK
    · (try simp only [r4]); rfl
    exact ⟨hH, jD (jA (rp (fun _ => rfl))) hV⟩
  refine st 7 rfl (fun b t wx hJ hb hd hcl Kc hK => ?_) ?_
  · obtain ⟨hH, v0, v1, v2, v3, v4, v5, v6, v7, v8, v9, v10⟩ := hJ
    have d3 := so hd 3; have d5 := so hd 5
    have n7 : b 7 = false := nf hb fun h => sc hcl 7 6 (h)
    have r3 := v3 d3; have r5 := v5 d5
    have hN := hH; (try simp only [hb, d3, d5, n7, cond_true, cond_false] at hN)
    go_simp
    go_at_call 64
    refine (l12Dims_any HD3.out (by rw [hTl.out]; omega) (fun x hx => by rw [occ3_ten]; exact HN.out.occ x hx) (by omega) _ _ _ (hT0.ext hH.ext) (hO0.ext hH.ext)).mono ?_; rintro e6 w6 ⟨v6, rfl, o6, h6⟩
    obtain ⟨x6, c6, rfl⟩ := o6.shape1 op.length (by rw [List.length_map])
    (try go_simp)
    apply sk hK
    · (try simp only [r3, r5]); rfl
    exact ⟨by have hX := hN.addI 1 h6 o6 (Nat.le_refl _); simpa only [List.set_cons_zero, List.set_cons_succ, updB, updV, blkOf_mk, tup0_mk, partsOf3, Nat.reduceBEq, cond_true, cond_false, hb, d3, d5, n7, r3, r5] using hX, v0, v1, v2, v3, v4, v5, fun _ => ⟨_, _, rfl⟩, ab n7, v8, v9, v10⟩
  refine st 8 rfl (fun b t wx hJ hb hd hcl Kc hK => ?_) ?_
  · obtain ⟨hH, hV⟩ := hJ
    have d1 := so hd 1; have d6 := so hd 6; have r1 := hV.2.1 d1; have r6 := hV.2.2.2.2.2.2.1 d6
    obtain ⟨x_6, c_6, r6⟩ := r6
    go_simp
    apply sk hK
    · (try simp only [r1, r6]); rfl
    exact ⟨hH, jD (jB (jA (rp (fun _ => (by show Value.agg _ = Value.agg #[_, t 6, _]; rw [r6]))))) hV⟩
  refine st 9 rfl (fun b t wx hJ hb hd hcl Kc hK => ?_) ?_
  · obtain ⟨hH, hV⟩ := hJ
    have d6 := so hd 6; have d7 := so hd 7; have r6 := hV.2.2.2.2.2.2.1 d6; have r7 := hV.2.2.2.2.2.2.2.1 d7
    obtain ⟨x_6, c_6, r6⟩ := r6
    have hN := hH; (try simp only [hb, d6, d7, cond_true, cond_false] at hN)
    rw [r6] at hN -- d6
    rw [r6] at r7 -- d6 d7
    have hN6 := hN.ints (k := 1) rfl
    go_simp
    go_at_call 95
    refine (tensorSize_spec _ op (op.map dm) [] _ ⟨_, _, _, rfl, hO0.ext hH.ext, hN6, IntS.nil _⟩).mono ?_; rintro e8 w8 ⟨rfl, h8⟩
    rw [HSZ.out]
    (try go_simp)
    apply sk hK
    · (try simp only [r6, r7]); rfl
    exact ⟨by have hX := hN.grow h8; simpa only [List.set_cons_zero, List.set_cons_succ, updB, updV, blkOf_mk, tup0_mk, partsOf3, Nat.reduceBEq, cond_true, cond_false, hb, d6, d7, r6, r7] using hX, jD (jD (rp (fun _ => rfl))) hV⟩
  refine st 10 rfl (fun b t wx hJ hb hd hcl Kc hK => ?_) ?_
  · obtain ⟨hH, hV⟩ := hJ
    have d8 := so hd 8; have r8 := hV.2.2.2.2.2.2.2.2.1 d8
    go_simp
    apply sk hK
    · (try simp only [r8]); rfl
    exact ⟨hH, jD (jD (jA (rp (fun _ => rfl)))) hV⟩
  refine st 11 rfl (fun b t wx hJ hb hd hcl Kc hK => ?_) ?_
  · obtain ⟨hH, hV⟩ := hJ
    have d0 := so hd 0; have d1 := so hd 1; have d2 := so hd 2; have d3 := so hd 3; have d4 := so hd 4; have d5 := so hd 5; have d6 := so hd 6; have d7 := so hd 7; have d8 := so hd 8; have d9 := so hd 9; have r0 := hV.1 d0; have r1 := hV.2.1 d1; have r2 := hV.2.2.1 d2; have r3 := hV.2.2.2.1 d3; have r4 := hV.2.2.2.2.1 d4; have r5 := hV.2.2.2.2.2.1 d5; have r6 := hV.2.2.2.2.2.2.1 d6; have r7 := hV.2.2.2.2.2.2.2.1 d7; have r8 := hV.2.2.2.2.2.2.2.2.1 d8; have r9 := hV.2.2.2.2.2.2.2.2.2.1 d9
    obtain ⟨x_6, c_6, r6⟩ := r6
    go_simp
    apply sk hK
    · (try simp only [r0, r1, r2, r3, r4, r5, r6, r7, r8, r9]); rfl
    exact ⟨hH, jD (jD (jB (fun _ => fun _ => rfl))) hV⟩
  exact AllSteps.nil
 intro b t wa hJ hall
 obtain ⟨hHa, v0, v1, v2, v3, v4, v5, v6, v7, v8, v9, v10⟩ := hJ
 have a0 := hall 0 (by decide); have a1 := hall 1 (by decide); have a2 := hall 2 (by decide); have a3 := hall 3 (by decide); have a4 := hall 4 (by decide); have a5 := hall 5 (by decide); have a6 := hall 6 (by decide); have a7 := hall 7 (by decide); have a8 := hall 8 (by decide); have a9 := hall 9 (by decide); have a10 := hall 10 (by decide)
 (try simp only [a0, a1, a2, a3, a4, a5, a6, a7, a8, a9, a10, cond_true] at hHa)
 replace v0 := v0 a0; replace v1 := v1 a1; replace v2 := v2 a2; replace v3 := v3 a3; replace v4 := v4 a4; replace v5 := v5 a5; replace v6 := v6 a6; replace v7 := v7 a7; replace v8 := v8 a8; replace v9 := v9 a9; replace v10 := v10 a10
 clear hall a0 a1 a2 a3 a4 a5 a6 a7 a8 a9 a10
 generalize t 10 = x10 at hHa v10 ⊢; generalize t 9 = x9 at hHa v9 ⊢; generalize t 8 = x8 at hHa v8 ⊢; generalize t 7 = x7 at hHa v7 ⊢; generalize t 6 = x6 at hHa v6 v7 ⊢; generalize t 5 = x5 at hHa v5 ⊢; generalize t 4 = x4 at hHa v4 ⊢; generalize t 3 = x3 at hHa v3 ⊢; generalize t 2 = x2 at hHa v2 ⊢; generalize t 1 = x1 at hHa v1 ⊢; generalize t 0 = x0 at hHa v0 ⊢; subst v0; subst v1; subst v2; subst v3; subst v4; subst v5
 obtain ⟨xa6, ca6, rfl⟩ := v6
 subst v7; subst v8; subst v9; subst v10
 clear b
 replace hH := hHa; clear hHa
 replace hH : Held w wa [nB w.heap.size k p n aV m cV aO op.length cO, aI (.slice xa6 op.length ca6) (op.map dm)] := hH
 have HE := Lib.hid hH.ext; clear hH
 go_wp2
 go_ret
 exact ⟨rfl, HE.out⟩
theorem l12Weight_any {k p n : Int} (hr : ringOk k p n = true) {dm : Int → Int} {U : List Int} {ts : List (NT k p n)} {op : List Int} (hN : IsN k p n dm U ts op) (tv ov : Value) (w : World) (hT : TensS w tv (ts.map (tenOf dm))) (hO : IntS w ov op) {AL : List Int} (σ : Int → Int) (hA : ∀ x ∈ occ ts, x ∈ AL) (hfit : ∀ x ∈ AL, 0 ≤ σ x ∧ σ x < dm x) (hal : AL.length ≤ 1000) (lv vv : Value) (hLv : IntS w lv AL) (hVv : IntS w vv (AL.map σ)) :
 Calls Tryz.prog 73 #[.agg #[.int .i64 k, .int .i64 p, .int .i64 n, tv, ov], lv, vv] w fun e w' => ∃ u, e = .returned u ∧ OwnI w' w.heap.size u (netF hr dm ts σ).1 ∧ Ext w w' := by
 obtain ⟨m, aV, cV, aO, cO, rfl, rfl, hcT1, hcT2, hcO1, hcO2, hm12, hop12, HM, HD3, hTl⟩ := net_in hN hT hO
 have hT0 := hT; have hO0 := hO; have HR := Lib.hid hr; have HN := Lib.hid hN; clear hN; try rw [HM.out]
 have hw := ringOk_wide hr
 have hf := ringOk_fit hr
 obtain ⟨W, hW⟩ : ∃ W : Nat, ringWidth k n = (W : Int) := ⟨(ringWidth k n).toNat, by have := hw.lo; omega⟩
 have hW1 : 1 ≤ W := by have := hw.lo; omega
 have hW6 : W ≤ 6 := by have := hw.hi; omega
 have HWW := Lib.hid hW; clear hW
 obtain ⟨aL, cL, rfl, hcL1, hcL2⟩ := hLv.val
 obtain ⟨aX, cX, rfl, hcX1, hcX2⟩ := hVv.val
 rw [List.length_map] at hVv hcX1
 rw [List.length_map]
 obtain ⟨G, hG⟩ : ∃ G : Nat → List Int, (fun j => (netF hr dm (ts.take j) σ).1) = G := ⟨_, rfl⟩
 have hGo : ∀ j, (netF hr dm (ts.take j) σ).1 = G j := fun j => congrFun hG j
 have HGK : Hid (∀ j, rawOk k p n (G j) = true) := Lib.hid fun j => by rw [← hGo]; exact (netF hr dm (ts.take j) σ).2
 have HGL : Hid (∀ j, (G j).length = W) := Lib.hid fun j => by have := (rawOk_iff.1 (HGK.out j)).1; have := HWW.out; omega
 have HG0 : Hid (G 0 = oneL k p n) := Lib.hid (by rw [← hGo]; rfl)
 have HGM : Hid ((netF hr dm ts σ).1 = G m) := Lib.hid (by rw [← hGo, List.take_of_length_le (by rw [HM.out]; exact Nat.le_refl _)])
 have HGS := Lib.hid (fun (j : Nat) (L : List Int) (xs : List (El k p n)) (h : ts[j]? = some (L, xs)) => netF_take hr (dm := dm) h σ)
 simp only [hGo] at HGS
 obtain ⟨VL, hVL⟩ : ∃ VL : List Int → List (El k p n) → List Int, (fun L xs => (valT hr dm L xs σ).1) = VL := ⟨_, rfl⟩
 have hVLo : ∀ L xs, (valT hr dm L xs σ).1 = VL L xs := fun L xs => congrFun (congrFun hVL L) xs
 have HVK : Hid (∀ L xs, rawOk k p n (VL L xs) = true) := Lib.hid fun L xs => by rw [← hVLo]; exact (valT hr dm L xs σ).2
 have HFIT := Lib.hid hfit; have HOA := Lib.hid hA
 have HRead := Lib.hid (fun (L : List Int) (xs : List (El k p n)) (h : (L, xs) ∈ ts) => read_off hr HWW.out (HN.out.ten _ h) (τ := σ) (fun l hl => HFIT.out l (HOA.out l (mem_occ.2 ⟨_, h, hl⟩))))
 simp only [hVLo] at HRead HGS
 rw [HGM.out]
 clear hG hVL hGo hVLo HGM hfit hA hr
 go_enter Tryz.func73, Tryz.ntmps73
 go_upto_region 1 with fail
 have hH : Held w w [] := Held.new (Ext.refl w) 0
 obtain ⟨hB, hsz⟩ := hH.laid #[.int .i64 k, .int .i64 p, .int .i64 n, .slice aV m cV, .slice aO op.length cO] 29
 generalize w.alloc (.cells #[.int .i64 k, .int .i64 p, .int .i64 n, .slice aV m cV, .slice aO op.length cO] 29) = wn1 at hB hsz ⊢
 replace hH : Held w wn1 [nB w.heap.size k p n aV m cV aO op.length cO] := hB
 have HSZwn1 := Lib.hid (show wn1.heap.size = w.heap.size + 1 by rw [hsz]); clear hB hsz
 obtain ⟨q0_0, q0_1, q0_2, q0_3, q0_4, l0_⟩ := hH.c5 0 rfl
 go_wp2_with fail
 clear q0_0 q0_1 q0_2 q0_3 q0_4 l0_
 refine (l02One_any k p n hw hf _).mono ?_; rintro ewn2 wn2 ⟨vw, rfl, ow, hwn2⟩
 rw [← HG0.out] at ow
 replace hH : Held w wn2 [nB w.heap.size k p n aV m cV aO op.length cO, aI vw (G 0)] := (hH.mores 1).addI 1 hwn2 ow (Nat.le_refl _)
 clear hwn2
 obtain ⟨q0_0, q0_1, q0_2, q0_3, q0_4, l0_⟩ := hH.c5 0 rfl
 go_wp2_with fail
 clear q0_0 q0_1 q0_2 q0_3 q0_4 l0_
 go_loopw [7, 19] (fun vw i wr => ∃ (j : Nat), j ≤ m ∧ i = .int .i64 (j : Int) ∧ Held w wr [nB w.heap.size k p n aV m cV aO op.length cO, aI vw (G j)]) (fun vw i wr => m - (RowKit.intOf i).toNat)
 case atStart => exact ⟨0, Nat.zero_le _, rfl, hH⟩
 clear hH
 rename_i vw
 obtain ⟨j, hj, rfl, hH⟩ := hrel
 obtain ⟨aw, cw, rfl⟩ := (hH.own (k := 1) rfl).shape1 W (HGL.out j)
 by_cases hlt : j < m
 ·
  obtain ⟨wq, rfl⟩ : ∃ q, q = wr := ⟨wr, rfl⟩
  obtain ⟨bT, oT, tl, xs, e1, f1, e2, f2, e3, m3, f3, hV, HTJ, HTI, hu0, hu1, hu2, hTu, hTL, hTD, hTX, _, _, _, _⟩ := hT.ten HN.out.ten (j := j) (by rw [hTl.out]; exact hlt); subst hV
  obtain ⟨bX, oX, cX3, hXX, hcX, _, hbX⟩ := hTX.open (by have h := HTI.out; have := (h.ok HR.out).nat HR.out; obtain ⟨P0, W', hP, hW', hP1, hP2, hW1', hW6', hXl⟩ := this; rw [hXl]; exact Nat.mul_le_mul hP1 hW1')
  cases hXX
  have hX9 := HTI.out.flatL HR.out
  have hrk : tl.length ≤ 12 := HTI.out.ax.rank
  have HTM := Lib.hid (List.mem_of_getElem? HTJ.out)
  have HTA : Hid (∀ x ∈ tl, x ∈ AL) := Lib.hid fun x hx => HOA.out x (mem_occ.2 ⟨_, HTM.out, hx⟩)
  obtain ⟨qj, hd1, hd2, hd3, hd4⟩ := HRead.out tl xs HTM.out
  obtain ⟨y, hy⟩ : ∃ y, VL tl xs = y := ⟨_, rfl⟩
  have HYK : Hid (rawOk k p n y = true) := Lib.hid (by rw [← hy]; exact HVK.out tl xs)
  have HGJ := Lib.hid (HGS.out j tl xs HTJ.out)
  rw [hy] at hd4 HGJ
  have HD1 := Lib.hid hd1; have HD3 := Lib.hid hd3; have HD4 := Lib.hid hd4
  have QJW : Hid ((qj : Int) * (W : Int) = ((qj * W : Nat) : Int)) := Lib.hid (by simp)
  have QJW2 : Hid ((qj : Int) * ringWidth k n = ((qj * W : Nat) : Int)) := Lib.hid (by rw [HWW.out]; simp)
  have hqj0 : (0 : Int) ≤ (qj : Int) := by omega
  clear hd1 hd3 hd4 hy
  obtain ⟨q0_0, q0_1, q0_2, q0_3, q0_4, l0_⟩ := hH.c5 0 rfl; have c_hu0 := hH.ext.cell hu0; have c_hu1 := hH.ext.cell hu1; have c_hu2 := hH.ext.cell hu2
  go_upto_region 5 with fail
  clear q0_0 q0_1 q0_2 q0_3 q0_4 l0_ c_hu0 c_hu1 c_hu2
  obtain ⟨hB, hsz⟩ := hH.laid #[.slice e1 tl.length f1, .slice e2 tl.length f2, .slice (some ⟨bX, oX, none⟩) (flat xs).length f3] 35
  generalize wq.alloc (.cells #[.slice e1 tl.length f1, .slice e2 tl.length f2, .slice (some ⟨bX, oX, none⟩) (flat xs).length f3] 35) = wn3 at hB hsz ⊢
  replace hH : Held w wn3 [nB w.heap.size k p n (some ⟨bT, oT, none⟩) m cV aO op.length cO, aI (.slice aw W cw) (G j), aB (wq.heap.size) 35 [.slice e1 tl.length f1, .slice e2 tl.length f2, .slice (some ⟨bX, oX, none⟩) (flat xs).length f3]] := hB
  have HSZwn3 := Lib.hid (show wn3.heap.size = wq.heap.size + 1 by rw [hsz]); clear hB hsz
  obtain ⟨q0_0, q0_1, q0_2, q0_3, q0_4, l0_⟩ := hH.c5 0 rfl; obtain ⟨q2_0, q2_1, q2_2, l2_⟩ := hH.c3 2 rfl; have c_hu0 := hH.ext.cell hu0; have c_hu1 := hH.ext.cell hu1; have c_hu2 := hH.ext.cell hu2
  go_wp2_with fail
  clear q0_0 q0_1 q0_2 q0_3 q0_4 l0_ q2_0 q2_1 q2_2 l2_ c_hu0 c_hu1 c_hu2
  have hB : Held w (wn3.alloc (.cells #[] 3)) [nB w.heap.size k p n (some ⟨bT, oT, none⟩) m cV aO op.length cO, aI (.slice aw W cw) (G j), aB (wq.heap.size) 35 [.slice e1 tl.length f1, .slice e2 tl.length f2, .slice (some ⟨bX, oX, none⟩) (flat xs).length f3], aI (.slice (some ⟨wn3.heap.size, 0, none⟩) 0 0) []] := by
   have h := (hH.mores 1).built 3 [] 0 rfl (by simp [maxLen]) #[] rfl
   exact h
  have hsz : (wn3.alloc (.cells #[] 3)).heap.size = wn3.heap.size + 1 := by simp
  generalize wn3.alloc (.cells #[] 3) = wn4 at hB hsz ⊢
  replace hH := hB; have HSZwn4 := Lib.hid hsz; clear hB hsz
  go_loopw [10, 27] (fun vi i wr => ∃ (q : Nat), q ≤ tl.length ∧ i = .int .i64 (q : Int) ∧ Held w wr [nB w.heap.size k p n (some ⟨bT, oT, none⟩) m cV aO op.length cO, aI (.slice aw W cw) (G j), aB (wq.heap.size) 35 [.slice e1 tl.length f1, .slice e2 tl.length f2, .slice (some ⟨bX, oX, none⟩) (flat xs).length f3], aI vi ((tl.take q).map σ)]) (fun vi i wr => tl.length - (RowKit.intOf i).toNat)
  case atStart => exact ⟨0, Nat.zero_le _, rfl, hH⟩
  clear hH
  rename_i vi
  obtain ⟨q, hq, rfl, hH⟩ := hrel
  obtain ⟨IL, hIL⟩ : ∃ z, ((tl.take q).map σ) = z := ⟨_, rfl⟩
  rw [hIL] at hH
  have hill : IL.length = q := by rw [← hIL, List.length_map, List.length_take]; omega
  have HILL := Lib.hid hill; have HIL := Lib.hid hIL; clear hIL hill
  obtain ⟨ai, ci, rfl⟩ := (hH.own (k := 3) rfl).shape1 q HILL.out
  by_cases hlt2 : q < tl.length
  ·
   obtain ⟨bE, oE, x, rfl, hce, hx, _⟩ := hTL.get hlt2
   have hxA := HTA.out x (List.mem_of_getElem? hx)
   obtain ⟨f, hff, hfl⟩ : ∃ f : Nat, findL AL x = (f : Int) ∧ AL[f]? = some x := find_nat hxA
   obtain ⟨bW, oW, z, rfl, hcz, hz, _⟩ := hVv.get (i := f) (by rw [List.length_map]; exact (List.getElem?_eq_some_iff.1 hfl).1)
   obtain rfl : z = σ x := by rw [List.getElem?_map, hfl] at hz; exact (Option.some.inj hz).symm
   have hfa : f < AL.length := (List.getElem?_eq_some_iff.1 hfl).1
   have HIS := Lib.hid (show (tl.take (q + 1)).map σ = IL ++ [σ x] by rw [take_snoc' hx, List.map_append, HIL.out]; rfl)
   have HFF := Lib.hid hff
   clear hx hfl hz hff hxA
   obtain ⟨q0_0, q0_1, q0_2, q0_3, q0_4, l0_⟩ := hH.c5 0 rfl; obtain ⟨q2_0, q2_1, q2_2, l2_⟩ := hH.c3 2 rfl; have c_hu0 := hH.ext.cell hu0; have c_hu1 := hH.ext.cell hu1; have c_hu2 := hH.ext.cell hu2; have c_hce := hH.ext.cell hce; have c_hcz := hH.ext.cell hcz
   go_wp2_with fail
   clear q0_0 q0_1 q0_2 q0_3 q0_4 l0_ q2_0 q2_1 q2_2 l2_ c_hu0 c_hu1 c_hu2 c_hce c_hcz
   refine (l05Find_any _ AL x _ (hLv.ext hH.ext)).mono ?_; rintro e3 w3 ⟨rfl, rfl⟩
   rw [HFF.out]
   obtain ⟨q0_0, q0_1, q0_2, q0_3, q0_4, l0_⟩ := hH.c5 0 rfl; obtain ⟨q2_0, q2_1, q2_2, l2_⟩ := hH.c3 2 rfl; have c_hu0 := hH.ext.cell hu0; have c_hu1 := hH.ext.cell hu1; have c_hu2 := hH.ext.cell hu2; have c_hce := hH.ext.cell hce; have c_hcz := hH.ext.cell hcz
   go_wp2_with (at_builtin; refine wpList_app _ rfl _ _ 27 rfl _ _ rfl rfl _ (run_push _ _ w.heap.size _ IL (σ x) (hH.own (k := 3) rfl) (by rw [HILL.out]; omega) hH.size) ?_; rintro v6 w6 ⟨o6, g6, n6⟩)
   go_roundw
   case rel => exact ⟨q + 1, by omega, by go_num, by rw [HIS.out]; exact hH.pushed (k := 3) rfl o6 g6 n6⟩
   case measure => simp [RowKit.intOf]; omega
  have hqe : q = tl.length := by omega
  subst hqe
  have hIe := HIL.out; rw [List.take_length] at hIe
  have HIE := Lib.hid hIe; clear hIe
  rw [← HIE.out] at hH
  have HOK : Hid (idxOk (tl.map dm) (tl.map σ) = true) := Lib.hid (idxOk_map fun l hl => HFIT.out l (HTA.out l hl))
  obtain ⟨wb, rfl⟩ : ∃ z, z = wr := ⟨wr, rfl⟩
  obtain ⟨q0_0, q0_1, q0_2, q0_3, q0_4, l0_⟩ := hH.c5 0 rfl; obtain ⟨q2_0, q2_1, q2_2, l2_⟩ := hH.c3 2 rfl; have c_hu0 := hH.ext.cell hu0; have c_hu1 := hH.ext.cell hu1; have c_hu2 := hH.ext.cell hu2
  go_upto_region 11 with fail
  clear q0_0 q0_1 q0_2 q0_3 q0_4 l0_ q2_0 q2_1 q2_2 l2_ c_hu0 c_hu1 c_hu2
  replace hH := hH.mores 2
  replace hH : Held w wb [nB w.heap.size k p n (some ⟨bT, oT, none⟩) m cV aO op.length cO, aI (.slice aw W cw) (G j), aB (wq.heap.size) 35 [.slice e1 tl.length f1, .slice e2 tl.length f2, .slice (some ⟨bX, oX, none⟩) (flat xs).length f3], aI (.slice ai tl.length ci) (tl.map σ), emp, emp] := hH
  refine wp_region_steps ?Fc (fun b t wx => Held w wx [nB w.heap.size k p n (some ⟨bT, oT, none⟩) m cV aO op.length cO, aI (.slice aw W cw) (G j), aB (wq.heap.size) 35 [.slice e1 tl.length f1, .slice e2 tl.length f2, .slice (some ⟨bX, oX, none⟩) (flat xs).length f3], aI (.slice ai tl.length ci) (tl.map σ), (bif b 10 then aI (t 10) y else emp), (bif b 11 then aI (t 11) (G (j + 1)) else emp)] ∧ (b 0 = true → t 0 = .pointer (some ⟨w.heap.size, 0, none⟩)) ∧ (b 1 = true → t 1 = .agg #[.int .i64 k, .int .i64 p, .int .i64 n]) ∧ (b 2 = true → t 2 = .slice aw W cw) ∧ (b 3 = true → t 3 = .pointer (some ⟨w.heap.size, 0, none⟩)) ∧ (b 4 = true → t 4 = .agg #[.int .i64 k, .int .i64 p, .int .i64 n]) ∧ (b 5 = true → t 5 = .agg #[.slice e1 tl.length f1, .slice e2 tl.length f2, .slice (some ⟨bX, oX, none⟩) (flat xs).length f3]) ∧ (b 6 = true → t 6 = .pointer (some ⟨wq.heap.size, 1, none⟩)) ∧ (b 7 = true → t 7 = .slice e2 tl.length f2) ∧ (b 8 = true → t 8 = .slice ai tl.length ci) ∧ (b 9 = true → t 9 = .int .i64 (qj : Int)) ∧ (b 10 = true → ∃ x c, t 10 = .slice x W c) ∧ (b 11 = true → ∃ x c, t 11 = .slice x W c) ∧ (b 12 = true → t 12 = t 11) ∧ Hid (b 12 = false → t 12 = .slice aw W cw)) ?hFc (by kernel_rfl) (by kernel_rfl) ?hJc ?hSc ?hEc
  (case hFc => intro t; simp only [putAll, Act.put, List.setIfInBounds_toArray, List.set_cons_zero, List.set_cons_succ, Nat.reduceAdd, Nat.zero_add]; exact rfl)
  case hJc => exact ⟨hH.grow ((Ext.refl _).drew), nof, nof, nof, nof, nof, nof, nof, nof, nof, nof, nof, nof, nof, Lib.hid fun _ => rfl⟩
  case hSc => as_aux_lemma =>
   refine st 1 rfl (fun b t wx hJ hb hd hcl Kc hK => ?_) ?_
   · obtain ⟨hH, v0, v1, v2, v3, v4, v5, v6, v7, v8, v9, v10, v11, v12, old12⟩ := hJ
     go_simp
     apply sk hK
     · rfl
     exact ⟨hH, fun _ => rfl, v1, v2, v3, v4, v5, v6, v7, v8, v9, v10, v11, v12, old12⟩
   refine st 2 rfl (fun b t wx hJ hb hd hcl Kc hK => ?_) ?_
   · obtain ⟨hH, v0, v1, v2, v3, v4, v5, v6, v7, v8, v9, v10, v11, v12, old12⟩ := hJ
     have d0 := so hd 0; have r0 := v0 d0; obtain ⟨q0_0, q0_1, q0_2, _⟩ := hH.c3 0 rfl
     go_simp
     apply sk hK
     · (try simp only [r0]); rfl
     exact ⟨hH, v0, fun _ => rfl, v2, v3, v4, v5, v6, v7, v8, v9, v10, v11, v12, old12⟩
   refine st 3 rfl (fun b t wx hJ hb hd hcl Kc hK => ?_) ?_
   · obtain ⟨hH, v0, v1, v2, v3, v4, v5, v6, v7, v8, v9, v10, v11, v12, old12⟩ := hJ
     have n12 : b 12 = false := nf hb fun h => sc hcl 12 2 (h)
     have eo12 := old12.out n12
     go_simp
     apply sk hK
     · (try simp only [eo12]); rfl
     exact ⟨hH, v0, v1, fun _ => rfl, v3, v4, v5, v6, v7, v8, v9, v10, v11, v12, old12⟩
   refine st 4 rfl (fun b t wx hJ hb hd hcl Kc hK => ?_) ?_
   · obtain ⟨hH, v0, v1, v2, v3, v4, v5, v6, v7, v8, v9, v10, v11, v12, old12⟩ := hJ
     go_simp
     apply sk hK
     · rfl
     exact ⟨hH, v0, v1, v2, fun _ => rfl, v4, v5, v6, v7, v8, v9, v10, v11, v12, old12⟩
   refine st 5 rfl (fun b t wx hJ hb hd hcl Kc hK => ?_) ?_
   · obtain ⟨hH, v0, v1, v2, v3, v4, v5, v6, v7, v8, v9, v10, v11, v12, old12⟩ := hJ
     have d3 := so hd 3; have r3 := v3 d3; obtain ⟨q0_0, q0_1, q0_2, _⟩ := hH.c3 0 rfl
     go_simp
     apply sk hK
     · (try simp only [r3]); rfl
     exact ⟨hH, v0, v1, v2, v3, fun _ => rfl, v5, v6, v7, v8, v9, v10, v11, v12, old12⟩
   refine st 6 rfl (fun b t wx hJ hb hd hcl Kc hK => ?_) ?_
   · obtain ⟨hH, v0, v1, v2, v3, v4, v5, v6, v7, v8, v9, v10, v11, v12, old12⟩ := hJ
     obtain ⟨q2_0, q2_1, q2_2, _⟩ := hH.c3 2 rfl
     go_simp
     apply sk hK
     · rfl
     exact ⟨hH, v0, v1, v2, v3, v4, fun _ => rfl, v6, v7, v8, v9, v10, v11, v12, old12⟩
   refine st 7 rfl (fun b t wx hJ hb hd hcl Kc hK => ?_) ?_
   · obtain ⟨hH, v0, v1, v2, v3, v4, v5, v6, v7, v8, v9, v10, v11, v12, old12⟩ := hJ
     go_simp
     apply sk hK
     · rfl
     exact ⟨hH, v0, v1, v2, v3, v4, v5, fun _ => rfl, v7, v8, v9, v10, v11, v12, old12⟩
   refine st 8 rfl (fun b t wx hJ hb hd hcl Kc hK => ?_) ?_
   · obtain ⟨hH, v0, v1, v2, v3, v4, v5, v6, v7, v8, v9, v10, v11, v12, old12⟩ := hJ
     have d6 := so hd 6; have r6 := v6 d6; have q2_1 := hH.cl 2 1 rfl rfl
     go_simp
     apply sk hK
     · (try simp only [r6]); rfl
     exact ⟨hH, v0, v1, v2, v3, v4, v5, v6, fun _ => rfl, v8, v9, v10, v11, v12, old12⟩
   refine st 9 rfl (fun b t wx hJ hb hd hcl Kc hK => ?_) ?_
   · obtain ⟨hH, v0, v1, v2, v3, v4, v5, v6, v7, v8, v9, v10, v11, v12, old12⟩ := hJ
     go_simp
     apply sk hK
     · rfl
     exact ⟨hH, v0, v1, v2, v3, v4, v5, v6, v7, fun _ => rfl, v9, v10, v11, v12, old12⟩
   refine st 10 rfl (fun b t wx hJ hb hd hcl Kc hK => ?_) ?_
   · obtain ⟨hH, v0, v1, v2, v3, v4, v5, v6, v7, v8, v9, v10, v11, v12, old12⟩ := hJ
     have d7 := so hd 7; have d8 := so hd 8; have r7 := v7 d7; have r8 := v8 d8
     go_simp
     go_at_call 69
     refine (l05Offset_any _ _ (tl.map dm) (tl.map σ) _ (hTD.ext hH.ext) (hH.ints (k := 3) rfl) HOK.out HTI.out.ax.dims HTI.out.ax.size).mono ?_; rintro e9 w9 ⟨rfl, rfl⟩
     rw [HD1.out]
     (try go_simp)
     apply sk hK
     · (try simp only [r7, r8]); rfl
     exact ⟨by have hX := hH; simpa only [List.set_cons_zero, List.set_cons_succ, updB, updV, blkOf_mk, tup0_mk, partsOf3, Nat.reduceBEq, cond_true, cond_false, hb, d7, d8, r7, r8] using hX, v0, v1, v2, v3, v4, v5, v6, v7, v8, fun _ => rfl, v10, v11, v12, old12⟩
   refine st 11 rfl (fun b t wx hJ hb hd hcl Kc hK => ?_) ?_
   · obtain ⟨hH, v0, v1, v2, v3, v4, v5, v6, v7, v8, v9, v10, v11, v12, old12⟩ := hJ
     have d4 := so hd 4; have d5 := so hd 5; have d9 := so hd 9; have r4 := v4 d4; have r5 := v5 d5; have r9 := v9 d9
     have hN := hH; (try simp only [hb, d4, d5, d9, cond_true, cond_false] at hN)
     go_simp
     go_at_call 72
     refine (l05Get_own k p n qj (qj * W) W HWW.out _ _ _ _ _ _ bX oX f3 (flat xs) _ (hTX.ext hH.ext) QJW.out hqj0 hw HD3.out hcX hX9).mono ?_; rintro e10 w10 ⟨v10, rfl, o10, h10⟩
     rw [HD4.out] at o10
     obtain ⟨x10, c10, rfl⟩ := o10.shape1 W (by have := (rawOk_iff.1 HYK.out).1; have := HWW.out; omega)
     (try go_simp)
     apply sk hK
     · (try simp only [r4, r5, r9]); rfl
     exact ⟨by have hX := hN.addI 4 h10 o10 (Nat.le_refl _); simpa only [List.set_cons_zero, List.set_cons_succ, updB, updV, blkOf_mk, tup0_mk, partsOf3, Nat.reduceBEq, cond_true, cond_false, hb, d4, d5, d9, r4, r5, r9] using hX, v0, v1, v2, v3, v4, v5, v6, v7, v8, v9, fun _ => ⟨_, _, rfl⟩, v11, v12, old12⟩
   refine st 12 rfl (fun b t wx hJ hb hd hcl Kc hK => ?_) ?_
   · obtain ⟨hH, v0, v1, v2, v3, v4, v5, v6, v7, v8, v9, v10, v11, v12, old12⟩ := hJ
     have d1 := so hd 1; have d2 := so hd 2; have d10 := so hd 10
     have n12 : b 12 = false := nf hb fun h => sc hcl 12 11 (h)
     have r1 := v1 d1; have r2 := v2 d2; have r10 := v10 d10
     obtain ⟨x_10, c_10, r10⟩ := r10
     have hN := hH; (try simp only [hb, d1, d2, d10, n12, cond_true, cond_false] at hN)
     rw [r10] at hN -- d10
     have hNy := hN.ints (k := 4) rfl
     go_simp
     go_at_call 99
     refine (l02Mul_any k p n _ _ (G j) y _ HR.out (hH.ints (k := 1) rfl) hNy (HGK.out j) HYK.out).mono ?_; rintro e11 w11 ⟨v11, rfl, o11, h11⟩
     rw [← HGJ.out] at o11
     obtain ⟨x11, c11, rfl⟩ := o11.shape1 W (HGL.out (j + 1))
     (try go_simp)
     apply sk hK
     · (try simp only [r1, r2, r10]); rfl
     exact ⟨by have hX := hN.addI 5 h11 o11 (Nat.le_refl _); simpa only [List.set_cons_zero, List.set_cons_succ, updB, updV, blkOf_mk, tup0_mk, partsOf3, Nat.reduceBEq, cond_true, cond_false, hb, d1, d2, d10, n12, r1, r2, r10] using hX, v0, v1, v2, v3, v4, v5, v6, v7, v8, v9, v10, fun _ => ⟨_, _, rfl⟩, ab n12, old12⟩
   refine st 13 rfl (fun b t wx hJ hb hd hcl Kc hK => ?_) ?_
   · obtain ⟨hH, v0, v1, v2, v3, v4, v5, v6, v7, v8, v9, v10, v11, v12, old12⟩ := hJ
     have d0 := so hd 0; have d1 := so hd 1; have d2 := so hd 2; have d3 := so hd 3; have d4 := so hd 4; have d5 := so hd 5; have d6 := so hd 6; have d7 := so hd 7; have d8 := so hd 8; have d9 := so hd 9; have d10 := so hd 10; have d11 := so hd 11; have r0 := v0 d0; have r1 := v1 d1; have r2 := v2 d2; have r3 := v3 d3; have r4 := v4 d4; have r5 := v5 d5; have r6 := v6 d6; have r7 := v7 d7; have r8 := v8 d8; have r9 := v9 d9; have r10 := v10 d10; have r11 := v11 d11
     obtain ⟨x_10, c_10, r10⟩ := r10
     obtain ⟨x_11, c_11, r11⟩ := r11
     go_simp
     apply sk hK
     · (try simp only [r0, r1, r2, r3, r4, r5, r6, r7, r8, r9, r10, r11]); rfl
     exact ⟨hH, v0, v1, v2, v3, v4, v5, v6, v7, v8, v9, v10, v11, fun _ => (by first | rfl | exact r11.symm), Lib.hid fun h => absurd (show true = false from h) (by decide)⟩
   exact AllSteps.nil
  intro b t wc hJ hall
  obtain ⟨hHc, v0, v1, v2, v3, v4, v5, v6, v7, v8, v9, v10, v11, v12, old12⟩ := hJ
  clear old12
  have a0 := hall 0 (by decide); have a1 := hall 1 (by decide); have a2 := hall 2 (by decide); have a3 := hall 3 (by decide); have a4 := hall 4 (by decide); have a5 := hall 5 (by decide); have a6 := hall 6 (by decide); have a7 := hall 7 (by decide); have a8 := hall 8 (by decide); have a9 := hall 9 (by decide); have a10 := hall 10 (by decide); have a11 := hall 11 (by decide); have a12 := hall 12 (by decide)
  (try simp only [a0, a1, a2, a3, a4, a5, a6, a7, a8, a9, a10, a11, a12, cond_true] at hHc)
  replace v0 := v0 a0; replace v1 := v1 a1; replace v2 := v2 a2; replace v3 := v3 a3; replace v4 := v4 a4; replace v5 := v5 a5; replace v6 := v6 a6; replace v7 := v7 a7; replace v8 := v8 a8; replace v9 := v9 a9; replace v10 := v10 a10; replace v11 := v11 a11; replace v12 := v12 a12
  clear hall a0 a1 a2 a3 a4 a5 a6 a7 a8 a9 a10 a11 a12
  generalize t 12 = x12 at hHc v12 ⊢; generalize t 11 = x11 at hHc v11 v12 ⊢; generalize t 10 = x10 at hHc v10 ⊢; generalize t 9 = x9 at hHc v9 ⊢; generalize t 8 = x8 at hHc v8 ⊢; generalize t 7 = x7 at hHc v7 ⊢; generalize t 6 = x6 at hHc v6 ⊢; generalize t 5 = x5 at hHc v5 ⊢; generalize t 4 = x4 at hHc v4 ⊢; generalize t 3 = x3 at hHc v3 ⊢; generalize t 2 = x2 at hHc v2 ⊢; generalize t 1 = x1 at hHc v1 ⊢; generalize t 0 = x0 at hHc v0 ⊢; subst v0; subst v1; subst v2; subst v3; subst v4; subst v5; subst v6; subst v7; subst v8; subst v9
  obtain ⟨xc10, cc10, rfl⟩ := v10
  obtain ⟨xc11, cc11, rfl⟩ := v11
  subst v12
  clear b
  replace hH := hHc; clear hHc
  replace hH : Held w wc [nB w.heap.size k p n (some ⟨bT, oT, none⟩) m cV aO op.length cO, aI (.slice aw W cw) (G j), aB (wq.heap.size) 35 [.slice e1 tl.length f1, .slice e2 tl.length f2, .slice (some ⟨bX, oX, none⟩) (flat xs).length f3], aI (.slice ai tl.length ci) (tl.map σ), aI (.slice xc10 W cc10) y, aI (.slice xc11 W cc11) (G (j + 1))] := hH
  replace hH : Held w wc [nB w.heap.size k p n (some ⟨bT, oT, none⟩) m cV aO op.length cO, aI (.slice xc11 W cc11) (G (j + 1))] := hH.sub (.cons_cons _ (.cons _ (.cons _ (.cons _ (.cons _ (.cons_cons _ .slnil))))))
  go_wp2_with fail
  go_roundw
  case rel => exact ⟨j + 1, by omega, by go_num, hH⟩
  case measure => simp [RowKit.intOf]; omega
 have hje : j = m := by omega
 subst hje
 have HO := Lib.hid (hH.own (k := 1) rfl); have HE := Lib.hid hH.ext; clear hH
 go_wp2
 go_ret
 exact ⟨_, rfl, HO.out, HE.out⟩
end Go.Proofs.YtlgjddgajdjllaaGreat
