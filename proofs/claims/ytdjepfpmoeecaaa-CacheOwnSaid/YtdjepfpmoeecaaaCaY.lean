/- Opening a call on the cache. -/
import Derived.Test.YtdjepfpmoeecaaaCaX
namespace Go.Proofs.Ytdjepfpmoeecaaa
open Go Go.RowKit
set_option maxRecDepth 10000
theorem open_cact {H : Type} {enc : TypeId × Value → H} {W : World} {b0 base : Nat} {spare : Nat → Bool} {held : Bool} {v : Value} {d : DataW H} {ps : List MemPlace} (hv : Value.okWide Try.prog W .any b0 31 v) (h : DataW.Trod enc Try.prog W base spare held 31 v d ps) : ∃ a : CAct, v = .agg a.enc.toArray := by
  obtain ⟨p, rfl, _⟩ := open_CActF hv h
  exact ⟨⟨p.f1, p.f2, p.f3, ⟨p.f4, p.f5, p.f6, p.f7, p.f8, p.f9⟩, p.f10⟩, rfl⟩
end Go.Proofs.Ytdjepfpmoeecaaa
