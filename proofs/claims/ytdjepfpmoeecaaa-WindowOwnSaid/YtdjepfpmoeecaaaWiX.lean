/- Opening calls on the window, parameters, two ints. -/
import Derived.Test.YtdjepfpmoeecaaaRows
import Derived.Test.YtdjepfpmoeecaaaWiL
import Derived.Test.YtdjepfpmoeecaaaOpen
namespace Go.Proofs.Ytdjepfpmoeecaaa
open Go Go.RowKit
set_option maxRecDepth 10000
set_option linter.unusedSimpArgs false
set_option linter.unusedVariables false

theorem u8_ge {n : Int} (h : (Lit.int .u8 n).wf = true) : 0 ≤ n ∧ n ≤ 255 := by
  simp [Lit.wf, IntKind.min, IntKind.max, IntKind.bits, IntKind.signed] at h
  omega

structure WActF where
  f1 : Int
  f2 : ByteArray
  f3 : Int
  f4 : Int
  f5 : Int
  f6 : Int
  f7 : Int
  f8 : Int
  f9 : Int
  f10 : Int
  f11 : Int
def WActF.enc (x : WActF) : List Value := [.int .i64 x.f1, .string x.f2, .int .i64 x.f3, .int .i64 x.f4, .int .i64 x.f5, .int .i64 x.f6, .int .i64 x.f7, .int .i64 x.f8, .int .i64 x.f9, .int .i64 x.f10, .int .i64 x.f11]
def WActF.ok (x : WActF) : Prop := okI x.f1 ∧ okI x.f3 ∧ okI x.f4 ∧ okI x.f5 ∧ okI x.f6 ∧ okI x.f7 ∧ okI x.f8 ∧ okI x.f9 ∧ okI x.f10 ∧ okI x.f11 ∧ True
theorem row_WActF {H : Type} {enc : TypeId × Value → H} {W : World} {base fuel : Nat} {spare : Nat → Bool} {held : Bool} {cs : List Value} {y : DataW H × List MemPlace} (h : DataW.trod enc Try.prog W base spare held fuel 66 cs = some y) : ∃ p : WActF, cs = p.enc ∧ p.ok := by
  have hl := trod_len h
  replace hl := len_cons hl
  obtain ⟨x0, cs, rfl, hl⟩ := hl
  replace hl := len_cons hl
  obtain ⟨x1, cs, rfl, hl⟩ := hl
  replace hl := len_cons hl
  obtain ⟨x2, cs, rfl, hl⟩ := hl
  replace hl := len_cons hl
  obtain ⟨x3, cs, rfl, hl⟩ := hl
  replace hl := len_cons hl
  obtain ⟨x4, cs, rfl, hl⟩ := hl
  replace hl := len_cons hl
  obtain ⟨x5, cs, rfl, hl⟩ := hl
  replace hl := len_cons hl
  obtain ⟨x6, cs, rfl, hl⟩ := hl
  replace hl := len_cons hl
  obtain ⟨x7, cs, rfl, hl⟩ := hl
  replace hl := len_cons hl
  obtain ⟨x8, cs, rfl, hl⟩ := hl
  replace hl := len_cons hl
  obtain ⟨x9, cs, rfl, hl⟩ := hl
  replace hl := len_cons hl
  obtain ⟨x10, cs, rfl, hl⟩ := hl
  replace hl := len_nil hl
  subst hl
  obtain ⟨m0, y0, h0⟩ := trod_fld (i := 0) h
  obtain ⟨m1, y1, h1⟩ := trod_fld (i := 1) h
  obtain ⟨m2, y2, h2⟩ := trod_fld (i := 2) h
  obtain ⟨m3, y3, h3⟩ := trod_fld (i := 3) h
  obtain ⟨m3, y3, h3⟩ := trod_fld (i := 0) h3
  obtain ⟨m4, y4, h4⟩ := trod_fld (i := 3) h
  obtain ⟨m4, y4, h4⟩ := trod_fld (i := 1) h4
  obtain ⟨m5, y5, h5⟩ := trod_fld (i := 4) h
  obtain ⟨m5, y5, h5⟩ := trod_fld (i := 0) h5
  obtain ⟨m6, y6, h6⟩ := trod_fld (i := 4) h
  obtain ⟨m6, y6, h6⟩ := trod_fld (i := 1) h6
  obtain ⟨m7, y7, h7⟩ := trod_fld (i := 4) h
  obtain ⟨m7, y7, h7⟩ := trod_fld (i := 2) h7
  obtain ⟨m8, y8, h8⟩ := trod_fld (i := 4) h
  obtain ⟨m8, y8, h8⟩ := trod_fld (i := 3) h8
  obtain ⟨m9, y9, h9⟩ := trod_fld (i := 4) h
  obtain ⟨m9, y9, h9⟩ := trod_fld (i := 4) h9
  obtain ⟨m10, y10, h10⟩ := trod_fld (i := 4) h
  obtain ⟨m10, y10, h10⟩ := trod_fld (i := 5) h10
  obtain ⟨n0, e0, w0⟩ := trod_int Und.out h0
  obtain ⟨n1, e1, w1⟩ := trod_string Und.out h1
  obtain ⟨n2, e2, w2⟩ := trod_int Und.out h2
  obtain ⟨n3, e3, w3⟩ := trod_int Und.out h3
  obtain ⟨n4, e4, w4⟩ := trod_int Und.out h4
  obtain ⟨n5, e5, w5⟩ := trod_int Und.out h5
  obtain ⟨n6, e6, w6⟩ := trod_int Und.out h6
  obtain ⟨n7, e7, w7⟩ := trod_int Und.out h7
  obtain ⟨n8, e8, w8⟩ := trod_int Und.out h8
  obtain ⟨n9, e9, w9⟩ := trod_int Und.out h9
  obtain ⟨n10, e10, w10⟩ := trod_int Und.out h10
  simp at e0 e1 e2 e3 e4 e5 e6 e7 e8 e9 e10
  subst e0 e1 e2 e3 e4 e5 e6 e7 e8 e9 e10
  exact ⟨⟨n0, n1, n2, n3, n4, n5, n6, n7, n8, n9, n10⟩, rfl, okI_wf w0, okI_wf w2, okI_wf w3, okI_wf w4, okI_wf w5, okI_wf w6, okI_wf w7, okI_wf w8, okI_wf w9, okI_wf w10, trivial⟩
theorem open_WActF {H : Type} {enc : TypeId × Value → H} {W : World} {b0 base : Nat} {spare : Nat → Bool} {held : Bool} {v : Value} {d : DataW H} {ps : List MemPlace} (hv : Value.okWide Try.prog W .any b0 66 v) (h : DataW.Trod enc Try.prog W base spare held 66 v d ps) : ∃ p : WActF, v = .agg p.enc.toArray ∧ p.ok := by
  obtain ⟨l, rfl⟩ := okWide_agg hv
  obtain ⟨fuel, h⟩ := h
  simp only [Value.cells, List.toList_toArray] at h
  obtain ⟨p, rfl, hp⟩ := row_WActF h
  exact ⟨p, rfl, hp⟩
structure PrmF where
  f1 : Int
  f2 : Int
  f3 : Int
  f4 : Int
  f5 : Int
  f6 : Int
  f7 : Int
def PrmF.enc (x : PrmF) : List Value := [.int .i64 x.f1, .int .i64 x.f2, .int .i64 x.f3, .int .i64 x.f4, .int .i64 x.f5, .int .i64 x.f6, .int .i64 x.f7]
def PrmF.ok (x : PrmF) : Prop := okI x.f1 ∧ okI x.f2 ∧ okI x.f3 ∧ okI x.f4 ∧ okI x.f5 ∧ okI x.f6 ∧ okI x.f7 ∧ True
theorem row_PrmF {H : Type} {enc : TypeId × Value → H} {W : World} {base fuel : Nat} {spare : Nat → Bool} {held : Bool} {cs : List Value} {y : DataW H × List MemPlace} (h : DataW.trod enc Try.prog W base spare held fuel 59 cs = some y) : ∃ p : PrmF, cs = p.enc ∧ p.ok := by
  have hl := trod_len h
  replace hl := len_cons hl
  obtain ⟨x0, cs, rfl, hl⟩ := hl
  replace hl := len_cons hl
  obtain ⟨x1, cs, rfl, hl⟩ := hl
  replace hl := len_cons hl
  obtain ⟨x2, cs, rfl, hl⟩ := hl
  replace hl := len_cons hl
  obtain ⟨x3, cs, rfl, hl⟩ := hl
  replace hl := len_cons hl
  obtain ⟨x4, cs, rfl, hl⟩ := hl
  replace hl := len_cons hl
  obtain ⟨x5, cs, rfl, hl⟩ := hl
  replace hl := len_cons hl
  obtain ⟨x6, cs, rfl, hl⟩ := hl
  replace hl := len_nil hl
  subst hl
  obtain ⟨m0, y0, h0⟩ := trod_fld (i := 0) h
  obtain ⟨m1, y1, h1⟩ := trod_fld (i := 1) h
  obtain ⟨m2, y2, h2⟩ := trod_fld (i := 2) h
  obtain ⟨m3, y3, h3⟩ := trod_fld (i := 3) h
  obtain ⟨m4, y4, h4⟩ := trod_fld (i := 4) h
  obtain ⟨m5, y5, h5⟩ := trod_fld (i := 5) h
  obtain ⟨m6, y6, h6⟩ := trod_fld (i := 6) h
  obtain ⟨n0, e0, w0⟩ := trod_int Und.out h0
  obtain ⟨n1, e1, w1⟩ := trod_int Und.out h1
  obtain ⟨n2, e2, w2⟩ := trod_int Und.out h2
  obtain ⟨n3, e3, w3⟩ := trod_int Und.out h3
  obtain ⟨n4, e4, w4⟩ := trod_int Und.out h4
  obtain ⟨n5, e5, w5⟩ := trod_int Und.out h5
  obtain ⟨n6, e6, w6⟩ := trod_int Und.out h6
  simp at e0 e1 e2 e3 e4 e5 e6
  subst e0 e1 e2 e3 e4 e5 e6
  exact ⟨⟨n0, n1, n2, n3, n4, n5, n6⟩, rfl, okI_wf w0, okI_wf w1, okI_wf w2, okI_wf w3, okI_wf w4, okI_wf w5, okI_wf w6, trivial⟩
theorem open_PrmF {H : Type} {enc : TypeId × Value → H} {W : World} {b0 base : Nat} {spare : Nat → Bool} {held : Bool} {v : Value} {d : DataW H} {ps : List MemPlace} (hv : Value.okWide Try.prog W .any b0 59 v) (h : DataW.Trod enc Try.prog W base spare held 59 v d ps) : ∃ p : PrmF, v = .agg p.enc.toArray ∧ p.ok := by
  obtain ⟨l, rfl⟩ := okWide_agg hv
  obtain ⟨fuel, h⟩ := h
  simp only [Value.cells, List.toList_toArray] at h
  obtain ⟨p, rfl, hp⟩ := row_PrmF h
  exact ⟨p, rfl, hp⟩
structure TwoF where
  f1 : Int
  f2 : Int
def TwoF.enc (x : TwoF) : List Value := [.int .i64 x.f1, .int .i64 x.f2]
def TwoF.ok (x : TwoF) : Prop := okI x.f1 ∧ okI x.f2 ∧ True
theorem row_TwoF {H : Type} {enc : TypeId × Value → H} {W : World} {base fuel : Nat} {spare : Nat → Bool} {held : Bool} {cs : List Value} {y : DataW H × List MemPlace} (h : DataW.trod enc Try.prog W base spare held fuel 74 cs = some y) : ∃ p : TwoF, cs = p.enc ∧ p.ok := by
  have hl := trod_len h
  replace hl := len_cons hl
  obtain ⟨x0, cs, rfl, hl⟩ := hl
  replace hl := len_cons hl
  obtain ⟨x1, cs, rfl, hl⟩ := hl
  replace hl := len_nil hl
  subst hl
  obtain ⟨m0, y0, h0⟩ := trod_idx h 0 (by decide)
  obtain ⟨m1, y1, h1⟩ := trod_idx h 1 (by decide)
  obtain ⟨n0, e0, w0⟩ := trod_int Und.out h0
  obtain ⟨n1, e1, w1⟩ := trod_int Und.out h1
  simp at e0 e1
  subst e0 e1
  exact ⟨⟨n0, n1⟩, rfl, okI_wf w0, okI_wf w1, trivial⟩
theorem open_TwoF {H : Type} {enc : TypeId × Value → H} {W : World} {b0 base : Nat} {spare : Nat → Bool} {held : Bool} {v : Value} {d : DataW H} {ps : List MemPlace} (hv : Value.okWide Try.prog W .any b0 74 v) (h : DataW.Trod enc Try.prog W base spare held 74 v d ps) : ∃ p : TwoF, v = .agg p.enc.toArray ∧ p.ok := by
  obtain ⟨l, rfl⟩ := okWide_agg hv
  obtain ⟨fuel, h⟩ := h
  simp only [Value.cells, List.toList_toArray] at h
  obtain ⟨p, rfl, hp⟩ := row_TwoF h
  exact ⟨p, rfl, hp⟩

theorem open_wacts {H : Type} {enc : TypeId × Value → H} {W : World} {b0 base : Nat} {held : Bool} {r : Reach} {v : Value} {d : DataW H} {ps : List MemPlace} (hsz : ∀ n ∈ d.weights Try.prog 56, n ≤ reachBytes) (hv : Value.okWide Try.prog W r b0 56 v) (h : DataW.Trod enc Try.prog W base (fun _ => true) held 56 v d ps) :
    ∃ (a : Option Addr) (cap : Nat) (its : List WAct), v = .slice a its.length cap ∧ Sl W a cap 11 (its.map WAct.enc) ∧ ∀ p ∈ its, True :=
  open_slice WAct.enc (fun _ => True) (fun h => by
    obtain ⟨p, rfl, _⟩ := row_WActF h
    exact ⟨⟨p.f1, p.f2.data.toList, p.f3, p.f4, p.f5, ⟨p.f6, p.f7, p.f8, p.f9, p.f10, p.f11⟩⟩, rfl, trivial⟩) (by decide) (by decide) hsz hv h
theorem open_wact {H : Type} {enc : TypeId × Value → H} {W : World} {b0 base : Nat} {spare : Nat → Bool} {held : Bool} {v : Value} {d : DataW H} {ps : List MemPlace} (hv : Value.okWide Try.prog W .any b0 66 v) (h : DataW.Trod enc Try.prog W base spare held 66 v d ps) : ∃ a : WAct, v = .agg a.enc.toArray := by
  obtain ⟨p, rfl, _⟩ := open_WActF hv h
  exact ⟨⟨p.f1, p.f2.data.toList, p.f3, p.f4, p.f5, ⟨p.f6, p.f7, p.f8, p.f9, p.f10, p.f11⟩⟩, rfl⟩
theorem open_prm {H : Type} {enc : TypeId × Value → H} {W : World} {b0 base : Nat} {spare : Nat → Bool} {held : Bool} {v : Value} {d : DataW H} {ps : List MemPlace} (hv : Value.okWide Try.prog W .any b0 59 v) (h : DataW.Trod enc Try.prog W base spare held 59 v d ps) : ∃ a : Prm, v = .agg a.enc.toArray := by
  obtain ⟨p, rfl, _⟩ := open_PrmF hv h
  exact ⟨⟨p.f1, p.f2, p.f3, p.f4, p.f5, p.f6, p.f7⟩, rfl⟩
theorem open_two {H : Type} {enc : TypeId × Value → H} {W : World} {b0 base : Nat} {spare : Nat → Bool} {held : Bool} {v : Value} {d : DataW H} {ps : List MemPlace} (hv : Value.okWide Try.prog W .any b0 74 v) (h : DataW.Trod enc Try.prog W base spare held 74 v d ps) : ∃ x y : Int, v = .agg [.int .i64 x, .int .i64 y].toArray := by
  obtain ⟨p, rfl, _⟩ := open_TwoF hv h
  exact ⟨p.f1, p.f2, rfl⟩
end Go.Proofs.Ytdjepfpmoeecaaa
