/- Texts of one kind, merged by program. -/
import Derived.Test.YtlgjddgajdjllaaGreatDoorQShelf
/- The package variables that the laws of this seat lean on. -/
set_option linter.unusedSimpArgs false
set_option linter.unusedVariables false
namespace Go.Proofs.YtlgjddgajdjllaaGreatDoor
open Go.RowKit
structure Errs (w : World) : Prop where
  tab : Tab w
  syn : ∃ tp p, w.var? Tryz.prog "strconv.ErrSyntax" = some #[.iface tp p]
  rng : ∃ tp p, w.var? Tryz.prog "strconv.ErrRange" = some #[.iface tp p]
theorem Errs.ext {w w' : World} (h : Errs w) (e : Ext w w') : Errs w' := by
  obtain ⟨t, ⟨a, b, c⟩, ⟨a2, b2, c2⟩⟩ := h
  exact ⟨t.ext e, ⟨a, b, var_ext e c⟩, ⟨a2, b2, var_ext e c2⟩⟩
structure Maxl (w : World) : Prop where
  has : ∃ m, w.cell? ⟨0, 0, none⟩ = some (.int .i64 m)
theorem Maxl.ext {w w' : World} (h : Maxl w) (e : Ext w w') : Maxl w' := by
  obtain ⟨m, hm⟩ := h.has
  exact ⟨m, e.cell hm⟩
structure AllV (w : World) : Prop where
  errs : Errs w
  maxl : Maxl w
theorem AllV.ext {w w' : World} (h : AllV w) (e : Ext w w') : AllV w' := ⟨h.errs.ext e, h.maxl.ext e⟩
theorem maxl_of {W : World} (h : W.ShapedOpen Tryz.prog) : Maxl W := ⟨Tryz.laysM146.s1_3 W h⟩
theorem gES : Tryz.prog.globalNamed "strconv.ErrSyntax" = some 1 := by kernel_rfl
theorem gESType : (Tryz.prog.globals[1]?).map (·.type) = some 103 := by kernel_rfl
theorem gER : Tryz.prog.globalNamed "strconv.ErrRange" = some 2 := by kernel_rfl
theorem gERType : (Tryz.prog.globals[2]?).map (·.type) = some 103 := by kernel_rfl
theorem cellsES : Tryz.prog.cellsOf 164 = 1 := by kernel_rfl
theorem cellsStr : Tryz.prog.cellsOf 9 = 1 := by kernel_rfl
theorem star : "*" ++ "errors.errorString" = "*errors.errorString" := by decide
theorem rowES (u : TypeId) (h : Tryz.prog.typeName? 3 u = some "*errors.errorString") : u = 162 :=
  typeName_ptr_named (nm := "errors.errorString") (by rw [star]; kernel_rfl) (by kernel_rfl) (by decide) u (by rw [star]; exact h)
theorem syn_of_head {W : World} {rest : List (String × DataW Unit)} (h : laidMet Tryz.prog (("strconv.ErrSyntax", Rows.laid_strconv_ErrSyntax) :: rest) W) : ∃ tp p, W.var? Tryz.prog "strconv.ErrSyntax" = some #[.iface tp p] := by
  obtain ⟨a0, s0, hv0, -, -, -⟩ := laid_sentinel h gES gESType Tryz.underlying103 rowES Tryz.underlying162 Tryz.underlying164 rfl rfl Tryz.underlying9 cellsES cellsStr
  exact ⟨_, _, hv0⟩
theorem rng_of_head {W : World} {rest : List (String × DataW Unit)} (h : laidMet Tryz.prog (("strconv.ErrRange", Rows.laid_strconv_ErrRange) :: rest) W) : ∃ tp p, W.var? Tryz.prog "strconv.ErrRange" = some #[.iface tp p] := by
  obtain ⟨a0, s0, hv0, -, -, -⟩ := laid_sentinel h gER gERType Tryz.underlying103 rowES Tryz.underlying162 Tryz.underlying164 rfl rfl Tryz.underlying9 cellsES cellsStr
  exact ⟨_, _, hv0⟩
theorem vars7 {W : World} (h : laidMet Tryz.prog [("math/bits.deBruijn32tab", Rows.laid_math_bits_deBruijn32tab), ("math/bits.deBruijn64tab", Rows.laid_math_bits_deBruijn64tab), ("internal/strconv.uint64pow10", Rows.laid_internal_strconv_uint64pow10), ("unicode/utf8.acceptRanges", Rows.laid_unicode_utf8_acceptRanges), ("strconv.ErrRange", Rows.laid_strconv_ErrRange), ("strconv.ErrSyntax", Rows.laid_strconv_ErrSyntax), ("unicode/utf8.first", Rows.laid_unicode_utf8_first)] W) (x : W.ShapedOpen Tryz.prog) : AllV W :=
  ⟨⟨tab_of_head (laidMet.tail (laidMet.tail h)), syn_of_head (laidMet.tail (laidMet.tail (laidMet.tail (laidMet.tail (laidMet.tail h))))), rng_of_head (laidMet.tail (laidMet.tail (laidMet.tail (laidMet.tail h))))⟩, maxl_of x⟩
abbrev Vars_fnExactParseNetwork (w : World) : Prop := AllV w
theorem vars_fnExactParseNetwork {W : World} (h : laidMetH Tryz.prog Rows.fnExactParseNetworkRow.laid W) (x : W.ShapedOpen Tryz.prog) : Vars_fnExactParseNetwork W := vars7 h x
end Go.Proofs.YtlgjddgajdjllaaGreatDoor
