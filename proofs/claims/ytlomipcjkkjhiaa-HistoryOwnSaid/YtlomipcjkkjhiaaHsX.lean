/- Opening a list of calls. -/
import Derived.Test.YtlomipcjkkjhiaaHsS
import Derived.Test.YtlomipcjkkjhiaaHsW
namespace Go.Proofs.Ytlomipcjkkjhiaa
open Go Go.RowKit
set_option maxRecDepth 10000
set_option linter.unusedSimpArgs false
set_option linter.unusedVariables false

structure ActF where
  f1 : Int
  f2 : Int
  f3 : Int
  f4 : Int
  f5 : Int
  f6 : ByteArray
  f7 : Int
  f8 : Int
  f9 : Int
  f10 : Int
  f11 : Int
  f12 : Int
  f13 : Int
  f14 : Int
def ActF.enc (x : ActF) : List Value := [.int .i64 x.f1, .int .i64 x.f2, .int .i64 x.f3, .int .i64 x.f4, .int .i64 x.f5, .string x.f6, .int .i64 x.f7, .int .i64 x.f8, .int .i64 x.f9, .int .i64 x.f10, .int .i64 x.f11, .int .i64 x.f12, .int .i64 x.f13, .int .i64 x.f14]
def ActF.ok (x : ActF) : Prop := okI x.f1 ∧ okI x.f2 ∧ okI x.f3 ∧ okI x.f4 ∧ okI x.f5 ∧ okI x.f7 ∧ okI x.f8 ∧ okI x.f9 ∧ okI x.f10 ∧ okI x.f11 ∧ okI x.f12 ∧ okI x.f13 ∧ okI x.f14 ∧ True
theorem row_ActF {H : Type} {enc : TypeId × Value → H} {W : World} {base fuel : Nat} {spare : Nat → Bool} {held : Bool} {cs : List Value} {y : DataW H × List MemPlace} (h : DataW.trod enc Try.prog W base spare held fuel 39 cs = some y) : ∃ p : ActF, cs = p.enc ∧ p.ok := by
  have hl := trod_len h
  replace hl := len_cons hl
  obtain ⟨x0, cs, rfl, hl⟩ := hl
  replace hl := len_cons hl
  obtain ⟨x1, cs, rfl, hl⟩ := hl
  replace hl := len_cons hl
  obtain ⟨x2, cs, rfl, hl⟩ := hl
  replace hl := len_cons hl
  obtain ⟨x3, cs, rfl, hl⟩ := hl
  replace hl := len_cons hl
  obtain ⟨x4, cs, rfl, hl⟩ := hl
  replace hl := len_cons hl
  obtain ⟨x5, cs, rfl, hl⟩ := hl
  replace hl := len_cons hl
  obtain ⟨x6, cs, rfl, hl⟩ := hl
  replace hl := len_cons hl
  obtain ⟨x7, cs, rfl, hl⟩ := hl
  replace hl := len_cons hl
  obtain ⟨x8, cs, rfl, hl⟩ := hl
  replace hl := len_cons hl
  obtain ⟨x9, cs, rfl, hl⟩ := hl
  replace hl := len_cons hl
  obtain ⟨x10, cs, rfl, hl⟩ := hl
  replace hl := len_cons hl
  obtain ⟨x11, cs, rfl, hl⟩ := hl
  replace hl := len_cons hl
  obtain ⟨x12, cs, rfl, hl⟩ := hl
  replace hl := len_cons hl
  obtain ⟨x13, cs, rfl, hl⟩ := hl
  replace hl := len_nil hl
  subst hl
  obtain ⟨m0, y0, h0⟩ := trod_fld (i := 0) h
  obtain ⟨m1, y1, h1⟩ := trod_fld (i := 1) h
  obtain ⟨m2, y2, h2⟩ := trod_fld (i := 2) h
  obtain ⟨m3, y3, h3⟩ := trod_fld (i := 3) h
  obtain ⟨m3, y3, h3⟩ := trod_fld (i := 0) h3
  obtain ⟨m4, y4, h4⟩ := trod_fld (i := 3) h
  obtain ⟨m4, y4, h4⟩ := trod_fld (i := 1) h4
  obtain ⟨m5, y5, h5⟩ := trod_fld (i := 3) h
  obtain ⟨m5, y5, h5⟩ := trod_fld (i := 2) h5
  obtain ⟨m6, y6, h6⟩ := trod_fld (i := 4) h
  obtain ⟨m6, y6, h6⟩ := trod_fld (i := 0) h6
  obtain ⟨m7, y7, h7⟩ := trod_fld (i := 4) h
  obtain ⟨m7, y7, h7⟩ := trod_fld (i := 1) h7
  obtain ⟨m8, y8, h8⟩ := trod_fld (i := 4) h
  obtain ⟨m8, y8, h8⟩ := trod_fld (i := 2) h8
  obtain ⟨m8, y8, h8⟩ := trod_fld (i := 0) h8
  obtain ⟨m9, y9, h9⟩ := trod_fld (i := 4) h
  obtain ⟨m9, y9, h9⟩ := trod_fld (i := 2) h9
  obtain ⟨m9, y9, h9⟩ := trod_fld (i := 1) h9
  obtain ⟨m10, y10, h10⟩ := trod_fld (i := 4) h
  obtain ⟨m10, y10, h10⟩ := trod_fld (i := 2) h10
  obtain ⟨m10, y10, h10⟩ := trod_fld (i := 2) h10
  obtain ⟨m11, y11, h11⟩ := trod_fld (i := 4) h
  obtain ⟨m11, y11, h11⟩ := trod_fld (i := 2) h11
  obtain ⟨m11, y11, h11⟩ := trod_fld (i := 3) h11
  obtain ⟨m12, y12, h12⟩ := trod_fld (i := 4) h
  obtain ⟨m12, y12, h12⟩ := trod_fld (i := 2) h12
  obtain ⟨m12, y12, h12⟩ := trod_fld (i := 4) h12
  obtain ⟨m13, y13, h13⟩ := trod_fld (i := 4) h
  obtain ⟨m13, y13, h13⟩ := trod_fld (i := 2) h13
  obtain ⟨m13, y13, h13⟩ := trod_fld (i := 5) h13
  obtain ⟨n0, e0, w0⟩ := trod_int Und.out h0
  obtain ⟨n1, e1, w1⟩ := trod_int Und.out h1
  obtain ⟨n2, e2, w2⟩ := trod_int Und.out h2
  obtain ⟨n3, e3, w3⟩ := trod_int Und.out h3
  obtain ⟨n4, e4, w4⟩ := trod_int Und.out h4
  obtain ⟨n5, e5, w5⟩ := trod_string Und.out h5
  obtain ⟨n6, e6, w6⟩ := trod_int Und.out h6
  obtain ⟨n7, e7, w7⟩ := trod_int Und.out h7
  obtain ⟨n8, e8, w8⟩ := trod_int Und.out h8
  obtain ⟨n9, e9, w9⟩ := trod_int Und.out h9
  obtain ⟨n10, e10, w10⟩ := trod_int Und.out h10
  obtain ⟨n11, e11, w11⟩ := trod_int Und.out h11
  obtain ⟨n12, e12, w12⟩ := trod_int Und.out h12
  obtain ⟨n13, e13, w13⟩ := trod_int Und.out h13
  simp at e0 e1 e2 e3 e4 e5 e6 e7 e8 e9 e10 e11 e12 e13
  subst e0 e1 e2 e3 e4 e5 e6 e7 e8 e9 e10 e11 e12 e13
  exact ⟨⟨n0, n1, n2, n3, n4, n5, n6, n7, n8, n9, n10, n11, n12, n13⟩, rfl, okI_wf w0, okI_wf w1, okI_wf w2, okI_wf w3, okI_wf w4, okI_wf w6, okI_wf w7, okI_wf w8, okI_wf w9, okI_wf w10, okI_wf w11, okI_wf w12, okI_wf w13, trivial⟩
theorem open_ActF {H : Type} {enc : TypeId × Value → H} {W : World} {b0 base : Nat} {spare : Nat → Bool} {held : Bool} {v : Value} {d : DataW H} {ps : List MemPlace} (hv : Value.okWide Try.prog W .any b0 39 v) (h : DataW.Trod enc Try.prog W base spare held 39 v d ps) : ∃ p : ActF, v = .agg p.enc.toArray ∧ p.ok := by
  obtain ⟨l, rfl⟩ := okWide_agg hv
  obtain ⟨fuel, h⟩ := h
  simp only [Value.cells, List.toList_toArray] at h
  obtain ⟨p, rfl, hp⟩ := row_ActF h
  exact ⟨p, rfl, hp⟩

theorem open_acts {H : Type} {enc : TypeId × Value → H} {W : World} {b0 base : Nat} {held : Bool} {r : Reach} {v : Value} {d : DataW H} {ps : List MemPlace} (hsz : ∀ n ∈ d.weights Try.prog 22, n ≤ reachBytes) (hv : Value.okWide Try.prog W r b0 22 v) (h : DataW.Trod enc Try.prog W base (fun _ => true) held 22 v d ps) :
    ∃ (a : Option Addr) (cap : Nat) (its : List Act), v = .slice a its.length cap ∧ Sl W a cap 14 (its.map Act.enc) ∧ ∀ p ∈ its, True :=
  open_slice Act.enc (fun _ => True) (fun h => by
    obtain ⟨p, rfl, _⟩ := row_ActF h
    exact ⟨⟨p.f1, p.f2, p.f3, ⟨p.f4, p.f5, p.f6⟩, ⟨p.f7, p.f8, p.f9, p.f10, p.f11, p.f12, p.f13, p.f14⟩⟩, rfl, trivial⟩) (by decide) (by decide) hsz hv h
end Go.Proofs.Ytlomipcjkkjhiaa
