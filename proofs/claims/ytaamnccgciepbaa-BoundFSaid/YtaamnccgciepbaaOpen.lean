/- Opening the arguments: what a reading (DataW.trod) tells of the cells it went through. -/
import Derived.Test.YtaamnccgciepbaaOps
import Derived.WalkKit
import Derived.ProofKit
import Derived.OpenShut
import Derived.ShutString
import Derived.ChangeOld
import Derived.Below
import Derived.SizedLaws
namespace Go.Proofs.Ytaamnccgciepbaa
open Go Go.RowKit

section
variable {H : Type} {enc : TypeId × Value → H} {P : Program} {w : World} {base : Nat} {spare : Nat → Bool} {held : Bool} {fuel : Nat} {t e : TypeId} {cs : List Value} {x : DataW H × List MemPlace}

theorem trod_int {k : IntKind} (ht : P.underlying t = some (.int k)) (h : DataW.trod enc P w base spare held fuel t cs = some x) : ∃ n, cs = [.int k n] ∧ (Lit.int k n).wf = true := by
  cases fuel with
  | zero => simp [DataW.trod] at h
  | succ m =>
    unfold DataW.trod at h
    rw [ht] at h
    split at h <;> simp_all
theorem trod_bool (ht : P.underlying t = some .bool) (h : DataW.trod enc P w base spare held fuel t cs = some x) : ∃ b, cs = [.bool b] := by
  cases fuel with
  | zero => simp [DataW.trod] at h
  | succ m =>
    unfold DataW.trod at h
    rw [ht] at h
    split at h <;> simp_all
theorem trod_string (ht : P.underlying t = some .string) (h : DataW.trod enc P w base spare held fuel t cs = some x) : ∃ s, cs = [.string s] ∧ s.size ≤ maxLen := by
  cases fuel with
  | zero => simp [DataW.trod] at h
  | succ m =>
    unfold DataW.trod at h
    rw [ht] at h
    split at h <;> simp_all

theorem mapM_all {α β : Type} {f : α → Option β} : ∀ {l : List α} {ys : List β}, l.mapM f = some ys → ∀ a ∈ l, ∃ y, f a = some y
  | [], _, _, a, ha => by simp at ha
  | b :: l, ys, h, a, ha => by
    rw [List.mapM_cons] at h
    cases hb : f b with
    | none => simp [hb] at h
    | some y =>
      cases hl : l.mapM f with
      | none => simp [hb, hl] at h
      | some zs =>
        rcases List.mem_cons.1 ha with rfl | h1
        · exact ⟨y, hb⟩
        · exact mapM_all hl a h1

theorem trod_struct {fs : Array Field} (ht : P.underlying t = some (.struct fs)) (h : DataW.trod enc P w base spare held fuel t cs = some x) :
    ∃ m, cs.length = P.cellsOf t ∧ ∀ f ∈ fs.toList, ∃ y, DataW.trod enc P w base spare held m f.type ((cs.drop f.offset).take (P.cellsOf f.type)) = some y := by
  cases fuel with
  | zero => simp [DataW.trod] at h
  | succ m =>
    unfold DataW.trod at h
    rw [ht] at h
    split at h <;> simp_all
    obtain ⟨hl, xs, hx, _⟩ := h
    exact ⟨m, fun f hf => by obtain ⟨⟨a, b⟩, h⟩ := mapM_all hx f (by simpa using hf); exact ⟨a, b, h⟩⟩
theorem trod_array {n : Nat} (ht : P.underlying t = some (.array n e)) (h : DataW.trod enc P w base spare held fuel t cs = some x) :
    ∃ m, cs.length = P.cellsOf t ∧ ∀ i, i < n → ∃ y, DataW.trod enc P w base spare held m e ((cs.drop (i * P.cellsOf e)).take (P.cellsOf e)) = some y := by
  cases fuel with
  | zero => simp [DataW.trod] at h
  | succ m =>
    unfold DataW.trod at h
    rw [ht] at h
    split at h <;> simp_all
    obtain ⟨hl, xs, hx, _⟩ := h
    exact ⟨m, fun i hi => by obtain ⟨⟨a, b⟩, h⟩ := mapM_all hx i (by simpa using hi); exact ⟨a, b, h⟩⟩
theorem trod_slice (ht : P.underlying t = some (.slice e)) (h : DataW.trod enc P w base spare held fuel t cs = some x) :
    cs = [.slice none 0 0] ∨ ∃ a len cap m, cs = [.slice (some a) len cap] ∧ len ≤ cap ∧ cap ≤ maxLen ∧ ∀ i, i < len → ∃ row y, w.cells? base (a.add (i * P.cellsOf e)) (P.cellsOf e) = some row ∧ DataW.trod enc P w base spare held m e row = some y := by
  cases fuel with
  | zero => simp [DataW.trod] at h
  | succ m =>
    unfold DataW.trod at h
    rw [ht] at h
    split at h <;> simp_all
    obtain ⟨⟨hb, hl, hc⟩, h⟩ := h
    simp only [Option.bind_eq_some_iff, Option.map_eq_some_iff] at h
    obtain ⟨elems, he, rest, hr, hd⟩ := h
    refine ⟨_, _, _, ⟨rfl, rfl, rfl⟩, hl, hc, m, fun i hi => ?_⟩
    obtain ⟨y, hy⟩ := mapM_all he i (by simpa using hi)
    simp only [Option.bind_eq_some_iff] at hy
    obtain ⟨row, h1, h2⟩ := hy
    exact ⟨row, h1, _, _, h2⟩
theorem trod_fld {i off n : Nat} [hf : Fld P t i off e] [hs : Size P e n] (h : DataW.trod enc P w base spare held fuel t cs = some x) : ∃ m y, DataW.trod enc P w base spare held m e ((cs.drop off).take n) = some y := by
  have hf := hf.out
  have hc : P.cellsOf e = n := by
    have := hs.out
    cases hi : P.info? e <;> simp [hi] at this
    simp [Program.cellsOf, hi, this]
  cases hu : P.underlying t with
  | none => simp [hu] at hf
  | some dd =>
    cases dd <;> simp [hu] at hf
    rename_i fs
    obtain ⟨f, hf1, hf2, hf3⟩ := hf
    obtain ⟨m, _, hall⟩ := trod_struct hu h
    have := hall f (List.mem_of_getElem? (by simpa using hf1))
    rw [hf2, hf3, hc] at this
    exact ⟨m, this⟩
theorem trod_idx {k n : Nat} [hu : Und P t (.array k e)] [hs : Size P e n] (h : DataW.trod enc P w base spare held fuel t cs = some x) (i : Nat) (hi : i < k) : ∃ m y, DataW.trod enc P w base spare held m e ((cs.drop (i * n)).take n) = some y := by
  have hc : P.cellsOf e = n := by
    have := hs.out
    cases hi : P.info? e <;> simp [hi] at this
    simp [Program.cellsOf, hi, this]
  obtain ⟨m, _, hall⟩ := trod_array hu.out h
  have := hall i hi
  rw [hc] at this
  exact ⟨m, this⟩
theorem trod_len {n : Nat} [ha : Aggr P t] [hs : Size P t n] (h : DataW.trod enc P w base spare held fuel t cs = some x) : cs.length = n := by
  have hc : P.cellsOf t = n := by
    have := hs.out
    cases hi : P.info? t <;> simp [hi] at this
    simp [Program.cellsOf, hi, this]
  have ha := ha.out
  cases hu : P.underlying t with
  | none => simp [hu] at ha
  | some dd =>
    cases dd <;> simp [hu] at ha
    · obtain ⟨m, hl, _⟩ := trod_array hu h
      rw [hl, hc]
    · obtain ⟨m, hl, _⟩ := trod_struct hu h
      rw [hl, hc]
theorem okWide_agg {r : Reach} {v : Value} [ha : Aggr P t] (h : Value.okWide P w r base t v) : ∃ l : List Value, v = .agg l.toArray := by
  have ha := ha.out
  unfold Value.okWide at h
  cases hu : P.underlying t with
  | none => simp [hu] at ha
  | some dd =>
    cases dd <;> simp [hu] at ha h
    all_goals
      obtain ⟨cs, rfl, _⟩ := h
      exact ⟨cs.toList, rfl⟩
end
end Go.Proofs.Ytaamnccgciepbaa
