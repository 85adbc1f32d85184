/- The row of BoundF. -/
import Derived.Test.YtaamnccgciepbaaRows
import Derived.Test.YtaamnccgciepbaaBndG
import Derived.Test.YtaamnccgciepbaaOpen
namespace Go.Proofs.Ytaamnccgciepbaa
open Go Go.RowKit
set_option maxRecDepth 10000
set_option linter.unusedSimpArgs false
set_option linter.unusedVariables false

theorem open_params {H : Type} {enc : TypeId × Value → H} {W : World} {b0 base : Nat} {spare : Nat → Bool} {held : Bool} {v : Value} {d : DataW H} {ps : List MemPlace} (hv : Value.okWide Try.prog W .any b0 33 v) (h : DataW.Trod enc Try.prog W base spare held 33 v d ps) :
    ∃ p : Params, v = .agg p.enc.toArray := by
  obtain ⟨l, rfl⟩ := okWide_agg hv
  obtain ⟨fuel, h⟩ := h
  simp only [Value.cells, List.toList_toArray] at h
  have hl := trod_len h
  replace hl := len_cons hl
  obtain ⟨x0, l, rfl, hl⟩ := hl
  replace hl := len_cons hl
  obtain ⟨x1, l, rfl, hl⟩ := hl
  replace hl := len_cons hl
  obtain ⟨x2, l, rfl, hl⟩ := hl
  replace hl := len_cons hl
  obtain ⟨x3, l, rfl, hl⟩ := hl
  replace hl := len_cons hl
  obtain ⟨x4, l, rfl, hl⟩ := hl
  replace hl := len_cons hl
  obtain ⟨x5, l, rfl, hl⟩ := hl
  replace hl := len_cons hl
  obtain ⟨x6, l, rfl, hl⟩ := hl
  replace hl := len_nil hl
  subst hl
  obtain ⟨m0, y0, h0⟩ := trod_fld (i := 0) h
  obtain ⟨m1, y1, h1⟩ := trod_fld (i := 1) h
  obtain ⟨m2, y2, h2⟩ := trod_fld (i := 2) h
  obtain ⟨m3, y3, h3⟩ := trod_fld (i := 3) h
  obtain ⟨m4, y4, h4⟩ := trod_fld (i := 4) h
  obtain ⟨m5, y5, h5⟩ := trod_fld (i := 5) h
  obtain ⟨m6, y6, h6⟩ := trod_fld (i := 6) h
  obtain ⟨n0, e0, _⟩ := trod_int Try.underlying3 h0
  obtain ⟨n1, e1, _⟩ := trod_int Try.underlying3 h1
  obtain ⟨n2, e2, _⟩ := trod_int Try.underlying3 h2
  obtain ⟨n3, e3, _⟩ := trod_int Try.underlying3 h3
  obtain ⟨n4, e4, _⟩ := trod_int Try.underlying3 h4
  obtain ⟨n5, e5, _⟩ := trod_int Try.underlying3 h5
  obtain ⟨n6, e6, _⟩ := trod_int Try.underlying3 h6
  simp at e0 e1 e2 e3 e4 e5 e6
  subst e0 e1 e2 e3 e4 e5 e6
  exact ⟨⟨n0, n1, n2, n3, n4, n5, n6⟩, rfl⟩

theorem open_op {H : Type} {enc : TypeId × Value → H} {W : World} {b0 base : Nat} {spare : Nat → Bool} {held : Bool} {v : Value} {d : DataW H} {ps : List MemPlace} (hv : Value.okWide Try.prog W .any b0 35 v) (h : DataW.Trod enc Try.prog W base spare held 35 v d ps) :
    ∃ p : AOp, v = .agg p.enc.toArray := by
  obtain ⟨l, rfl⟩ := okWide_agg hv
  obtain ⟨fuel, h⟩ := h
  simp only [Value.cells, List.toList_toArray] at h
  have hl := trod_len h
  replace hl := len_cons hl
  obtain ⟨x0, l, rfl, hl⟩ := hl
  replace hl := len_cons hl
  obtain ⟨x1, l, rfl, hl⟩ := hl
  replace hl := len_cons hl
  obtain ⟨x2, l, rfl, hl⟩ := hl
  replace hl := len_nil hl
  subst hl
  obtain ⟨m0, y0, h0⟩ := trod_fld (i := 0) h
  obtain ⟨m1, y1, h1⟩ := trod_fld (i := 1) h
  obtain ⟨m2, y2, h2⟩ := trod_fld (i := 2) h
  obtain ⟨n0, e0, _⟩ := trod_int Try.underlying3 h0
  obtain ⟨n1, e1, _⟩ := trod_int Try.underlying3 h1
  obtain ⟨n2, e2, _⟩ := trod_string Und.out h2
  simp at e0 e1 e2
  subst e0 e1 e2
  exact ⟨⟨n0, n1, n2⟩, rfl⟩
end Go.Proofs.Ytaamnccgciepbaa
