/- Opening a list of items. -/
import Derived.Test.YtaamnccgciepbaaBndI
import Derived.Test.YtaamnccgciepbaaOpen
namespace Go.Proofs.Ytaamnccgciepbaa
open Go Go.RowKit
set_option maxRecDepth 10000
set_option linter.unusedSimpArgs false
set_option linter.unusedVariables false

def Item.ok (x : Item) : Prop := okI x.kind ∧ okI x.client ∧ okI x.opKind ∧ okI x.opN ∧ True
theorem row_Item {H : Type} {enc : TypeId × Value → H} {W : World} {base fuel : Nat} {spare : Nat → Bool} {held : Bool} {cs : List Value} {y : DataW H × List MemPlace} (h : DataW.trod enc Try.prog W base spare held fuel 42 cs = some y) : ∃ p : Item, cs = p.enc ∧ p.ok := by
  have hl := trod_len h
  replace hl := len_cons hl
  obtain ⟨x0, cs, rfl, hl⟩ := hl
  replace hl := len_cons hl
  obtain ⟨x1, cs, rfl, hl⟩ := hl
  replace hl := len_cons hl
  obtain ⟨x2, cs, rfl, hl⟩ := hl
  replace hl := len_cons hl
  obtain ⟨x3, cs, rfl, hl⟩ := hl
  replace hl := len_cons hl
  obtain ⟨x4, cs, rfl, hl⟩ := hl
  replace hl := len_nil hl
  subst hl
  obtain ⟨m0, y0, h0⟩ := trod_fld (i := 0) h
  obtain ⟨m1, y1, h1⟩ := trod_fld (i := 1) h
  obtain ⟨m2, y2, h2⟩ := trod_fld (i := 2) h
  obtain ⟨m2, y2, h2⟩ := trod_fld (i := 0) h2
  obtain ⟨m3, y3, h3⟩ := trod_fld (i := 2) h
  obtain ⟨m3, y3, h3⟩ := trod_fld (i := 1) h3
  obtain ⟨m4, y4, h4⟩ := trod_fld (i := 2) h
  obtain ⟨m4, y4, h4⟩ := trod_fld (i := 2) h4
  obtain ⟨n0, e0, w0⟩ := trod_int Und.out h0
  obtain ⟨n1, e1, w1⟩ := trod_int Und.out h1
  obtain ⟨n2, e2, w2⟩ := trod_int Und.out h2
  obtain ⟨n3, e3, w3⟩ := trod_int Und.out h3
  obtain ⟨n4, e4, w4⟩ := trod_string Und.out h4
  simp at e0 e1 e2 e3 e4
  subst e0 e1 e2 e3 e4
  exact ⟨⟨n0, n1, n2, n3, n4⟩, rfl, okI_wf w0, okI_wf w1, okI_wf w2, okI_wf w3, trivial⟩
theorem open_Item {H : Type} {enc : TypeId × Value → H} {W : World} {b0 base : Nat} {spare : Nat → Bool} {held : Bool} {v : Value} {d : DataW H} {ps : List MemPlace} (hv : Value.okWide Try.prog W .any b0 42 v) (h : DataW.Trod enc Try.prog W base spare held 42 v d ps) : ∃ p : Item, v = .agg p.enc.toArray ∧ p.ok := by
  obtain ⟨l, rfl⟩ := okWide_agg hv
  obtain ⟨fuel, h⟩ := h
  simp only [Value.cells, List.toList_toArray] at h
  obtain ⟨p, rfl, hp⟩ := row_Item h
  exact ⟨p, rfl, hp⟩

theorem open_items {H : Type} {enc : TypeId × Value → H} {W : World} {b0 base : Nat} {held : Bool} {r : Reach} {v : Value} {d : DataW H} {ps : List MemPlace} (hsz : ∀ n ∈ d.weights Try.prog 22, n ≤ reachBytes) (hv : Value.okWide Try.prog W r b0 22 v) (h : DataW.Trod enc Try.prog W base (fun _ => true) held 22 v d ps) :
    ∃ (a : Option Addr) (cap : Nat) (its : List Item), v = .slice a its.length cap ∧ Sl W a cap 5 (its.map Item.enc) ∧ ∀ p ∈ its, p.ok :=
  open_slice Item.enc Item.ok (fun h => row_Item h) (by decide) (by decide) hsz hv h

structure Ints3 where
  x : Int
  y : Int
  z : Int
def Ints3.enc (q : Ints3) : List Value := [.int .i64 q.x, .int .i64 q.y, .int .i64 q.z]
def Ints3.ok (x : Ints3) : Prop := okI x.x ∧ okI x.y ∧ okI x.z ∧ True
theorem row_Ints3 {H : Type} {enc : TypeId × Value → H} {W : World} {base fuel : Nat} {spare : Nat → Bool} {held : Bool} {cs : List Value} {y : DataW H × List MemPlace} (h : DataW.trod enc Try.prog W base spare held fuel 23 cs = some y) : ∃ p : Ints3, cs = p.enc ∧ p.ok := by
  have hl := trod_len h
  replace hl := len_cons hl
  obtain ⟨x0, cs, rfl, hl⟩ := hl
  replace hl := len_cons hl
  obtain ⟨x1, cs, rfl, hl⟩ := hl
  replace hl := len_cons hl
  obtain ⟨x2, cs, rfl, hl⟩ := hl
  replace hl := len_nil hl
  subst hl
  obtain ⟨m0, y0, h0⟩ := trod_idx h 0 (by decide)
  obtain ⟨m1, y1, h1⟩ := trod_idx h 1 (by decide)
  obtain ⟨m2, y2, h2⟩ := trod_idx h 2 (by decide)
  obtain ⟨n0, e0, w0⟩ := trod_int Und.out h0
  obtain ⟨n1, e1, w1⟩ := trod_int Und.out h1
  obtain ⟨n2, e2, w2⟩ := trod_int Und.out h2
  simp at e0 e1 e2
  subst e0 e1 e2
  exact ⟨⟨n0, n1, n2⟩, rfl, okI_wf w0, okI_wf w1, okI_wf w2, trivial⟩
theorem open_Ints3 {H : Type} {enc : TypeId × Value → H} {W : World} {b0 base : Nat} {spare : Nat → Bool} {held : Bool} {v : Value} {d : DataW H} {ps : List MemPlace} (hv : Value.okWide Try.prog W .any b0 23 v) (h : DataW.Trod enc Try.prog W base spare held 23 v d ps) : ∃ p : Ints3, v = .agg p.enc.toArray ∧ p.ok := by
  obtain ⟨l, rfl⟩ := okWide_agg hv
  obtain ⟨fuel, h⟩ := h
  simp only [Value.cells, List.toList_toArray] at h
  obtain ⟨p, rfl, hp⟩ := row_Ints3 h
  exact ⟨p, rfl, hp⟩
end Go.Proofs.Ytaamnccgciepbaa
