/- The row of BoundJoins. -/
import Derived.Test.YtaamnccgciepbaaBndS
import Derived.Test.YtaamnccgciepbaaBndJ
namespace Go.Proofs.Ytaamnccgciepbaa
open Go Go.RowKit
set_option maxRecDepth 10000
set_option linter.unusedSimpArgs false
set_option linter.unusedVariables false
structure Ints2 where
  x : Int
  y : Int
def Ints2.enc (q : Ints2) : List Value := [.int .i64 q.x, .int .i64 q.y]
def Ints2.ok (x : Ints2) : Prop := okI x.x ∧ okI x.y ∧ True
theorem row_Ints2 {H : Type} {enc : TypeId × Value → H} {W : World} {base fuel : Nat} {spare : Nat → Bool} {held : Bool} {cs : List Value} {y : DataW H × List MemPlace} (h : DataW.trod enc Try.prog W base spare held fuel 30 cs = some y) : ∃ p : Ints2, cs = p.enc ∧ p.ok := by
  have hl := trod_len h
  replace hl := len_cons hl
  obtain ⟨x0, cs, rfl, hl⟩ := hl
  replace hl := len_cons hl
  obtain ⟨x1, cs, rfl, hl⟩ := hl
  replace hl := len_nil hl
  subst hl
  obtain ⟨m0, y0, h0⟩ := trod_idx h 0 (by decide)
  obtain ⟨m1, y1, h1⟩ := trod_idx h 1 (by decide)
  obtain ⟨n0, e0, w0⟩ := trod_int Und.out h0
  obtain ⟨n1, e1, w1⟩ := trod_int Und.out h1
  simp at e0 e1
  subst e0 e1
  exact ⟨⟨n0, n1⟩, rfl, okI_wf w0, okI_wf w1, trivial⟩
theorem open_Ints2 {H : Type} {enc : TypeId × Value → H} {W : World} {b0 base : Nat} {spare : Nat → Bool} {held : Bool} {v : Value} {d : DataW H} {ps : List MemPlace} (hv : Value.okWide Try.prog W .any b0 30 v) (h : DataW.Trod enc Try.prog W base spare held 30 v d ps) : ∃ p : Ints2, v = .agg p.enc.toArray ∧ p.ok := by
  obtain ⟨l, rfl⟩ := okWide_agg hv
  obtain ⟨fuel, h⟩ := h
  simp only [Value.cells, List.toList_toArray] at h
  obtain ⟨p, rfl, hp⟩ := row_Ints2 h
  exact ⟨p, rfl, hp⟩
end Go.Proofs.Ytaamnccgciepbaa
