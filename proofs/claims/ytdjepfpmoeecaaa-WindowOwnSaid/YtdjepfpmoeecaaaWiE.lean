/- The window in plain lists. -/
import Derived.Test.YtdjepfpmoeecaaaWiD
namespace Go.Proofs.Ytdjepfpmoeecaaa
open Go Go.RowKit
set_option maxRecDepth 10000
set_option linter.unusedSimpArgs false
set_option linter.unusedVariables false

def WS.need (s : WS) (t : Int) : WS := { s with low := (min (max t s.low) s.all.length).toNat }
/-- How far the floor is raised. -/
def WS.rise (s : WS) (most : Int) : Nat := (min (max most 1) ((s.low : Int) - s.fl)).toNat
def WS.recl (s : WS) (most : Int) : WS := { s with fl := s.fl + s.rise most, ws := s.ws.drop (rsweep s.ws ((s.fl + s.rise most : Nat) : Int) (max most 1)) }
def WS.reclN (s : WS) (most : Int) : Int := s.rise most + rsweep s.ws ((s.fl + s.rise most : Nat) : Int) (max most 1)
def WS.fits (B : Int) (s : WS) (n : Int) : Bool := decide (n ≤ B - ((s.all.length : Int) - s.fl)) || decide (s.fl = s.low)
def WS.make (B st : Int) (n : Int) (s : WS) : WS := if s.fits B n then s else s.recl st
def WS.makes (B st : Int) (n : Int) (s : WS) : Nat → WS
  | 0 => s
  | k + 1 => (WS.makes B st n s k).make B st n
def WS.made (B st : Int) (s : WS) (n : Int) : WS := WS.makes B st n s (B.toNat + 1)
def WS.fedN (B st : Int) (s : WS) (t : List UInt8) : Nat := min t.length (B - (((s.made B st t.length).all.length : Int) - (s.made B st t.length).fl)).toNat
def WS.feed (B st : Int) (s : WS) (t : List UInt8) : WS := { s.made B st t.length with all := (s.made B st t.length).all ++ t.take (s.fedN B st t) }
def WS.keepB (B : Int) (s : WS) (e : CE) : Bool := if e.at' < s.fl ∨ (s.all.length : Int) < e.at' then false else if (rput s.ws e (B + 1)).2 then true else (rput (s.ws.drop (rsweep s.ws s.fl 1)) e (B + 1)).2
def WS.keep (B : Int) (s : WS) (e : CE) : WS := if e.at' < s.fl ∨ (s.all.length : Int) < e.at' then s else if (rput s.ws e (B + 1)).2 then { s with ws := (rput s.ws e (B + 1)).1 } else { s with ws := (rput (s.ws.drop (rsweep s.ws s.fl 1)) e (B + 1)).1 }

theorem WOK.need {B : Int} {s : WS} (h : WOK B s) (t : Int) : WOK B (s.need t) := by
  have h1 := h.h1; have h2 := h.h2
  exact ⟨h.b1, h.b2, by simp only [WS.need]; omega, by simp only [WS.need]; omega, h.h3, h.h4⟩
theorem WOK.recl {B : Int} {s : WS} (h : WOK B s) (m : Int) : WOK B (s.recl m) := by
  have h1 := h.h1; have h3 := h.h3; have h4 := h.h4
  refine ⟨h.b1, h.b2, by simp only [WS.recl, WS.rise]; omega, h.h2, by simp only [WS.recl, WS.rise]; omega, ?_⟩
  simp only [WS.recl, List.length_drop]
  omega
theorem WOK.make {B st n : Int} {s : WS} (h : WOK B s) : WOK B (s.make B st n) := by
  unfold WS.make
  split
  · exact h
  · exact h.recl _
theorem WOK.makes {B st n : Int} {s : WS} (h : WOK B s) : ∀ k, WOK B (WS.makes B st n s k)
  | 0 => h
  | k + 1 => (WOK.makes h k).make
theorem make_all {B st n : Int} {s : WS} : (s.make B st n).all = s.all ∧ (s.make B st n).low = s.low := by
  unfold WS.make
  split <;> exact ⟨rfl, rfl⟩
theorem makes_all {B st n : Int} {s : WS} : ∀ k, (WS.makes B st n s k).all = s.all ∧ (WS.makes B st n s k).low = s.low
  | 0 => ⟨rfl, rfl⟩
  | k + 1 => ⟨make_all.1.trans (makes_all k).1, make_all.2.trans (makes_all k).2⟩
theorem makes_stop {B st n : Int} {s : WS} {k : Nat} (h : (WS.makes B st n s k).fits B n = true) : ∀ j, WS.makes B st n s (k + j) = WS.makes B st n s k
  | 0 => rfl
  | j + 1 => by
    have ih := makes_stop h j
    show (WS.makes B st n s (k + j)).make B st n = _
    rw [ih]
    unfold WS.make
    rw [if_pos h]
theorem makes_gap {B st n : Int} {s : WS} (hs : WOK B s) : ∀ k, (WS.makes B st n s k).fits B n = true ∨ (WS.makes B st n s k).low - (WS.makes B st n s k).fl + k ≤ s.low - s.fl
  | 0 => .inr (Nat.le_refl _)
  | k + 1 => by
    rcases makes_gap hs k with h | h
    · left
      have := makes_stop h 1
      rw [this]; exact h
    · have ho := WOK.makes (st := st) (n := n) hs k
      by_cases hf : (WS.makes B st n s k).fits B n = true
      · left
        have := makes_stop hf 1
        rw [this]; exact hf
      · right
        have e : WS.makes B st n s (k + 1) = (WS.makes B st n s k).recl st := by
          show (WS.makes B st n s k).make B st n = _
          unfold WS.make
          rw [if_neg hf]
        have h1 := ho.h1
        have hne : (WS.makes B st n s k).fl ≠ (WS.makes B st n s k).low := fun he => hf (by unfold WS.fits; simp [he])
        rw [e]
        simp only [WS.recl, WS.rise]
        omega
theorem made_fits {B st n : Int} {s : WS} (hs : WOK B s) : (s.made B st n).fits B n = true := by
  rcases makes_gap (st := st) (n := n) hs (B.toNat + 1) with h | h
  · exact h
  · exfalso
    have h1 := hs.h1; have h2 := hs.h2; have h3 := hs.h3; have := hs.b1
    omega
theorem made_eq {B st n : Int} {s : WS} (hs : WOK B s) {k : Nat} (h : (WS.makes B st n s k).fits B n = true) : WS.makes B st n s k = s.made B st n := by
  have hm := made_fits (st := st) (n := n) hs
  unfold WS.made at hm ⊢
  rcases Nat.le_total k (B.toNat + 1) with hle | hle
  · have := makes_stop h (B.toNat + 1 - k)
    rw [← this, show k + (B.toNat + 1 - k) = B.toNat + 1 from by omega]
  · have := makes_stop hm (k - (B.toNat + 1))
    rw [← this, show B.toNat + 1 + (k - (B.toNat + 1)) = k from by omega]
theorem WOK.feed {B st : Int} {s : WS} (h : WOK B s) (t : List UInt8) : WOK B (s.feed B st t) := by
  have hm : WOK B (s.made B st t.length) := WOK.makes h _
  have h2 := hm.h2; have h3 := hm.h3
  refine ⟨h.b1, h.b2, hm.h1, by simp only [WS.feed, List.length_append]; omega, ?_, hm.h4⟩
  simp only [WS.feed, WS.fedN, List.length_append, List.length_take]
  omega
theorem rput_room {ws : List CE} {e : CE} {room : Int} (h : (ws.length : Int) ≤ room) : ((rput ws e room).1.length : Int) ≤ room := by
  unfold rput
  have := ahead_le ws e.at'
  dsimp only
  split
  · rename_i ha
    obtain ⟨x, hx, _⟩ := Option.map_eq_some_iff.1 ha
    have := (List.getElem?_eq_some_iff.1 hx).1
    simp only [List.length_append, List.length_take, List.length_cons, List.length_drop]; omega
  · split
    · exact h
    · rename_i hr
      simp only [List.length_append, List.length_take, List.length_cons, List.length_drop]; omega
theorem WOK.keep {B : Int} {s : WS} (h : WOK B s) (e : CE) : WOK B (s.keep B e) := by
  unfold WS.keep
  have h4 := h.h4
  split
  · exact h
  · split
    · exact ⟨h.b1, h.b2, h.h1, h.h2, h.h3, rput_room h4⟩
    · exact ⟨h.b1, h.b2, h.h1, h.h2, h.h3, rput_room (by simp only [List.length_drop]; omega)⟩
end Go.Proofs.Ytdjepfpmoeecaaa
