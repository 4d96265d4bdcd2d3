/- Texts of one kind, merged by program. -/
import Derived.Test.YtlgjddgajdjllaaGreatHPermW
/- equalInts, equalTensors, PermuteTensor of the program. -/
set_option linter.unusedSimpArgs false
set_option linter.unusedVariables false
namespace Go.Proofs.YtlgjddgajdjllaaGreat
open Go.RowKit
theorem equalInts_ext (v u : Value) (l m : List Int) (w : World) (hl : IntS w v l) (hm : IntS w u m) : Calls Tryz.prog 83 #[v, u] w fun e w' => e = .returned (.bool (l == m)) ∧ Ext w w' :=
  (equalInts_quiet v u l m w hl hm).mono fun _ _ ⟨he, n, hn⟩ => ⟨he, hn ▸ (Ext.refl w).drewN n⟩
theorem equalTensors_yes (va vb : Value) (L D X : List Int) (w : World) (ha : TenS w va L D X) (hb : TenS w vb L D X) : Calls Tryz.prog 46 #[va, vb] w fun e w' => e = .returned (.bool true) ∧ Ext w w' := by
 have ha0 := ha
 obtain ⟨ap1, an1, ac1, ap2, an2, ac2, ap3, an3, ac3, rfl⟩ := ha.shape
 obtain ⟨_, _, _, hvv, haL, haD, haX⟩ := ha.val
 simp at hvv
 obtain ⟨rfl, rfl, rfl⟩ := hvv
 have hb0 := hb
 obtain ⟨bp1, bn1, bc1, bp2, bn2, bc2, bp3, bn3, bc3, rfl⟩ := hb.shape
 obtain ⟨_, _, _, hvv, hbL, hbD, hbX⟩ := hb.val
 simp at hvv
 obtain ⟨rfl, rfl, rfl⟩ := hvv
 generalize hW1 : ((w.alloc (.cells #[.slice ap1 an1 ac1, .slice ap2 an2 ac2, .slice ap3 an3 ac3] 35)).alloc (.cells #[.slice bp1 bn1 bc1, .slice bp2 bn2 bc2, .slice bp3 bn3 bc3] 35)) = w1
 have h1 : Ext w w1 := by rw [← hW1]; exact xt
 have Ba : Blk w1 (w.heap.size) 35 [.slice ap1 an1 ac1, .slice ap2 an2 ac2, .slice ap3 an3 ac3] := by rw [← hW1]; exact ((Blk.newB (c := #[_, _, _]) (by simp)).alloc _)
 have Bb : Blk w1 (w.heap.size + 1) 35 [.slice bp1 bn1 bc1, .slice bp2 bn2 bc2, .slice bp3 bn3 bc3] := by rw [← hW1]; exact (Blk.newB (c := #[_, _, _]) (by simp))
 have HS1 : Hid (w1.heap.size = w.heap.size + 2) := Lib.hid (by rw [← hW1]; simp)
 have HW := Lib.hid hW1; clear hW1
 go_enter Tryz.func46, Tryz.ntmps46
 go_wp2_with fail
 rw [HW.out]
 have ia_0 := Ba.cell (j := 0) rfl
 have ia_1 := Ba.cell (j := 1) rfl
 have ia_2 := Ba.cell (j := 2) rfl
 have ib_0 := Bb.cell (j := 0) rfl
 have ib_1 := Bb.cell (j := 1) rfl
 have ib_2 := Bb.cell (j := 2) rfl
 have q1 : (L == L) = true := by simp
 have q2 : (D == D) = true := by simp
 have q3 : (X == X) = true := by simp
 go_wp2_with fail
 refine (equalInts_ext _ _ L L _ (haL.ext h1) (hbL.ext h1)).mono ?_; rintro e2 w2 ⟨rfl, h2⟩; rw [q1]
 have ja_0 := h2.cell ia_0
 have ja_1 := h2.cell ia_1
 have ja_2 := h2.cell ia_2
 have jb_0 := h2.cell ib_0
 have jb_1 := h2.cell ib_1
 have jb_2 := h2.cell ib_2
 have E2 := h1.trans h2
 have l2a := (Ba.ext h2).lt
 have l2b := (Bb.ext h2).lt
 go_wp2_with fail
 refine (equalInts_ext _ _ D D _ (haD.ext E2) (hbD.ext E2)).mono ?_; rintro e3 w3 ⟨rfl, h3⟩; rw [q2]
 have ka_0 := h3.cell ja_0
 have ka_1 := h3.cell ja_1
 have ka_2 := h3.cell ja_2
 have kb_0 := h3.cell jb_0
 have kb_1 := h3.cell jb_1
 have kb_2 := h3.cell jb_2
 have E3 := E2.trans h3
 have l3a := (Ba.ext (h2.trans h3)).lt
 have l3b := (Bb.ext (h2.trans h3)).lt
 go_wp2_with fail
 refine (equalInts_ext _ _ X X _ (haX.ext E3) (hbX.ext E3)).mono ?_; rintro e4 w4 ⟨rfl, h4⟩; rw [q3]
 go_wp2
 go_ret
 exact ⟨rfl, E3.trans h4⟩
section
variable {k p n : Int} (hr : ringOk k p n = true)
set_option maxRecDepth 100000 in
set_option maxHeartbeats 2000000 in
theorem permuteTensor_any {dm : Int → Int} {U L M : List Int} {xs : List (El k p n)} (ht : IsT k p n dm U L xs) (hp : L.Perm M) (va vm : Value) (w : World) (ha : TenS w va L (L.map dm) (flat xs)) (hm : IntS w vm M) :
 Calls Tryz.prog 61 #[ringV k p n, va, vm] w fun e w' => ∃ u, e = .returned (.tuple #[u, .bool true]) ∧ OwnT w' w.heap.size u M (M.map dm) (flat (permXs hr dm L M xs)) ∧ Ext w w' := by
 have HT := Lib.hid ht; clear ht
 have HP := Lib.hid hp; clear hp
 have HY := Lib.hid (HT.out.yes hr)
 obtain ⟨am, cm, rfl, _, _⟩ := hm.val
 have ha0 := ha
 obtain ⟨ap1, an1, ac1, ap2, an2, ac2, ap3, an3, ac3, rfl⟩ := ha.shape
 obtain ⟨_, _, _, hvv, haL, haD, haX⟩ := ha.val
 simp at hvv
 obtain ⟨rfl, rfl, rfl⟩ := hvv
 generalize hW1 : (((w.alloc (.cells #[.int .i64 k, .int .i64 p, .int .i64 n] 24)).alloc (.cells #[.slice ap1 an1 ac1, .slice ap2 an2 ac2, .slice ap3 an3 ac3] 35)).alloc (.cells #[.slice none 0 0, .slice none 0 0, .slice none 0 0] 35)) = w1
 have h1 : Ext w w1 := by rw [← hW1]; exact xt
 have Br : Blk w1 (w.heap.size) 24 [.int .i64 k, .int .i64 p, .int .i64 n] := by rw [← hW1]; exact (((Blk.newB (c := #[_, _, _]) (by simp)).alloc _).alloc _)
 have Ba : Blk w1 (w.heap.size + 1) 35 [.slice ap1 an1 ac1, .slice ap2 an2 ac2, .slice ap3 an3 ac3] := by rw [← hW1]; exact ((Blk.newB (c := #[_, _, _]) (by simp)).alloc _)
 have Bz : Blk w1 (w.heap.size + 2) 35 [.slice none 0 0, .slice none 0 0, .slice none 0 0] := by rw [← hW1]; exact (Blk.newB (c := #[_, _, _]) (by simp))
 have HS1 : Hid (w1.heap.size = w.heap.size + 3) := Lib.hid (by rw [← hW1]; simp)
 have HW := Lib.hid hW1; clear hW1
 go_enter Tryz.func61, Tryz.ntmps61
 go_wp2_with fail
 rw [HW.out]
 have ir_0 := Br.cell (j := 0) rfl
 have ir_1 := Br.cell (j := 1) rfl
 have ir_2 := Br.cell (j := 2) rfl
 have ia_0 := Ba.cell (j := 0) rfl
 have ia_1 := Ba.cell (j := 1) rfl
 have ia_2 := Ba.cell (j := 2) rfl
 go_wp2_with fail
 refine (tensorOk_impl k p n _ L _ _ _ (ha0.ext h1)).mono ?_; rintro e2 w2 ⟨rfl, h2⟩; rw [HY.out]
 have Br2 := Br.ext h2
 have Ba2 := Ba.ext h2
 have Bz2 := Bz.ext h2
 have j2r_0 := Br2.cell (j := 0) rfl
 have j2r_1 := Br2.cell (j := 1) rfl
 have j2r_2 := Br2.cell (j := 2) rfl
 have j2a_0 := Ba2.cell (j := 0) rfl
 have j2a_1 := Ba2.cell (j := 1) rfl
 have j2a_2 := Ba2.cell (j := 2) rfl
 have j2z_0 := Bz2.cell (j := 0) rfl
 have j2z_1 := Bz2.cell (j := 1) rfl
 have j2z_2 := Bz2.cell (j := 2) rfl
 have l2r := Br2.lt
 have l2a := Ba2.lt
 have l2z := Bz2.lt
 go_wp2_with fail
 refine (sameLabels_yes _ _ L M _ (haL.ext (h1.trans h2)) (hm.ext (h1.trans h2)) HP.out (HP.out.nodup_iff.1 HT.out.sub.nodup)).mono ?_; rintro e3 w3 ⟨rfl, rfl⟩
 go_wp2_with fail
 refine (rawPermute_any hr HT.out HP.out _ _ _ (ha0.ext (h1.trans h2)) (hm.ext (h1.trans h2))).mono ?_; rintro e4 w4 ⟨v4, rfl, o4, h4⟩
 obtain ⟨up1, un1, uc1, up2, un2, uc2, up3, un3, uc3, rfl⟩ := o4.shape
 have Bz4 := Bz2.ext h4
 have f0 := Bz4.free 0
 have f1 := Bz4.free 1
 have f2 := Bz4.free 2
 have z0 := Bz4.cell (j := 0) rfl
 have z1 := Bz4.cell (j := 1) rfl
 have z2 := Bz4.cell (j := 2) rfl
 have lz4 := Bz4.lt
 have hs2 := h2.size
 have hs1 := HS1.out
 have hlt3 : w.heap.size + 1 + 1 < w2.heap.size := by omega
 go_wp2
 refine bodyPost_ret (v := .tuple #[.agg #[.slice up1 un1 uc1, .slice up2 un2 uc2, .slice up3 un3 uc3], .bool true]) (by simp [results, Tryz.results61, go_sem, *]) rfl ?_
 exact ⟨_, rfl, (((o4.setBelow hlt3 _).setBelow hlt3 _).setBelow hlt3 _).mono (by omega), ((((h1.trans h2).trans h4).setAt (by omega) _ _).setAt (by omega) _ _).setAt (by omega) _ _⟩
end
section
variable {k p n : Int} (hr : ringOk k p n = true)
def netF (dm : Int → Int) (ts : List (NT k p n)) (σ : Int → Int) : El k p n := ts.foldl (fun a t => (rig hr).mul a (valT hr dm t.1 t.2 σ)) (rig hr).one
theorem foldl_mul {α : Type} (f : α → El k p n) : ∀ (l : List α) (a : El k p n), l.foldl (fun a t => (rig hr).mul a (f t)) a = (rig hr).mul a (l.foldl (fun a t => (rig hr).mul a (f t)) (rig hr).one)
  | [], a => by simp only [List.foldl_nil]; exact ((rig hr).mul_one a).symm
  | x :: l, a => by
    rw [List.foldl_cons, List.foldl_cons, foldl_mul f l, foldl_mul f l ((rig hr).mul (rig hr).one (f x)), (rig hr).one_mul, (rig hr).mul_assoc]
theorem netF_nil (dm : Int → Int) (σ : Int → Int) : netF hr dm [] σ = (rig hr).one := rfl
theorem netF_cons (dm : Int → Int) (t : NT k p n) (ts : List (NT k p n)) (σ : Int → Int) : netF hr dm (t :: ts) σ = (rig hr).mul (valT hr dm t.1 t.2 σ) (netF hr dm ts σ) := by
  unfold netF
  rw [List.foldl_cons, foldl_mul, (rig hr).one_mul]
theorem netF_append (dm : Int → Int) (ts us : List (NT k p n)) (σ : Int → Int) : netF hr dm (ts ++ us) σ = (rig hr).mul (netF hr dm ts σ) (netF hr dm us σ) := by
  unfold netF
  rw [List.foldl_append, foldl_mul]
theorem netF_snoc (dm : Int → Int) (ts : List (NT k p n)) (t : NT k p n) (σ : Int → Int) : netF hr dm (ts ++ [t]) σ = (rig hr).mul (netF hr dm ts σ) (valT hr dm t.1 t.2 σ) := by
  unfold netF
  rw [List.foldl_append]; rfl
theorem netF_perm (dm : Int → Int) {ts us : List (NT k p n)} (h : ts.Perm us) (σ : Int → Int) : netF hr dm ts σ = netF hr dm us σ := by
  induction h with
  | nil => rfl
  | cons x _ ih => rw [netF_cons, netF_cons, ih]
  | swap x y l => rw [netF_cons, netF_cons, netF_cons, netF_cons, (rig hr).mul_swap]
  | trans _ _ h1 h2 => rw [h1, h2]
theorem netF_dep (dm : Int → Int) : ∀ ts : List (NT k p n), Dep (netF hr dm ts) (occ ts)
  | [] => fun _ _ _ => rfl
  | t :: ts => fun σ τ h => by
    rw [netF_cons, netF_cons, valT_dep hr dm t.1 t.2 σ τ fun l hl => h l (by rw [mem_occ]; exact ⟨t, by simp, hl⟩),
      netF_dep dm ts σ τ fun l hl => h l (by obtain ⟨u, hu, hl⟩ := mem_occ.1 hl; rw [mem_occ]; exact ⟨u, by simp [hu], hl⟩)]
def netG (dm : Int → Int) (ts : List (NT k p n)) (op : List Int) : (Int → Int) → El k p n := contrF (rig hr) dm (ascL (occ ts)) op (netF hr dm ts)
def netXs (dm : Int → Int) (ts : List (NT k p n)) (op : List Int) : List (El k p n) := tab (axs dm op) (netG hr dm ts op) σ0
variable {dm : Int → Int} {U : List Int} {ts : List (NT k p n)} {op : List Int}
theorem netXs_isT (h : IsN k p n dm U ts op) : IsT k p n dm U op (netXs hr dm ts op) := IsT.tab h.uni h.sub _
theorem netF_dep' (h : IsN k p n dm U ts op) : Dep (netF hr dm ts) (ascL (occ ts)) := (netF_dep hr dm ts).mono fun _ hx => h.mem_asc.2 hx
theorem netG_dep (h : IsN k p n dm U ts op) : Dep (netG hr dm ts op) op :=
  (contrF_dep (rig hr) (netF_dep' hr h)).mono fun _ hx => (mem_keepL.1 hx).2
theorem netG_val (h : IsN k p n dm U ts op) {τ : Int → Int} (hf : Fits (axs dm op) τ) : valT hr dm op (netXs hr dm ts op) τ = netG hr dm ts op τ :=
  valT_tab hr (netG_dep hr h) hf σ0
def netZ (dm : Int → Int) (ts : List (NT k p n)) (op : List Int) (o : Nat) : List (El k p n) :=
  scat (rig hr) (List.replicate (size (axs dm op)) (rig hr).zero) (((List.range o).map fun q => (off (axs dm op) (asg (axs dm (ascL (occ ts))) q σ0), netF hr dm ts (asg (axs dm (ascL (occ ts))) q σ0))))
end
end Go.Proofs.YtlgjddgajdjllaaGreat
