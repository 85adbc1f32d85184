/- Opening the arguments: what a reading (DataW.trod) tells of the cells it went through. -/
import Derived.Test.YtdjepfpmoeecaaaOps
import Derived.WalkKit
import Derived.ProofKit
import Derived.OpenShut
import Derived.ShutString
import Derived.ChangeOld
import Derived.Below
import Derived.SizedLaws
namespace Go.Proofs.Ytdjepfpmoeecaaa
open Go Go.RowKit

def okI (n : Int) : Prop := -9223372036854775808 ≤ n ∧ n ≤ 9223372036854775807
theorem okI_wf {n : Int} (h : (Lit.int .i64 n).wf = true) : okI n := by
  have := bounds_i64 h
  unfold okI
  omega
section
variable {H : Type} {enc : TypeId × Value → H} {P : Program} {w : World} {base : Nat} {spare : Nat → Bool} {held : Bool} {fuel : Nat} {t e : TypeId} {cs : List Value} {x : DataW H × List MemPlace}

theorem trod_int {k : IntKind} (ht : P.underlying t = some (.int k)) (h : DataW.trod enc P w base spare held fuel t cs = some x) : ∃ n, cs = [.int k n] ∧ (Lit.int k n).wf = true := by
  cases fuel with
  | zero => simp [DataW.trod] at h
  | succ m =>
    unfold DataW.trod at h
    rw [ht] at h
    split at h <;> simp_all
theorem trod_bool (ht : P.underlying t = some .bool) (h : DataW.trod enc P w base spare held fuel t cs = some x) : ∃ b, cs = [.bool b] := by
  cases fuel with
  | zero => simp [DataW.trod] at h
  | succ m =>
    unfold DataW.trod at h
    rw [ht] at h
    split at h <;> simp_all
theorem trod_string (ht : P.underlying t = some .string) (h : DataW.trod enc P w base spare held fuel t cs = some x) : ∃ s, cs = [.string s] ∧ s.size ≤ maxLen := by
  cases fuel with
  | zero => simp [DataW.trod] at h
  | succ m =>
    unfold DataW.trod at h
    rw [ht] at h
    split at h <;> simp_all

theorem mapM_all {α β : Type} {f : α → Option β} : ∀ {l : List α} {ys : List β}, l.mapM f = some ys → ∀ a ∈ l, ∃ y, f a = some y
  | [], _, _, a, ha => by simp at ha
  | b :: l, ys, h, a, ha => by
    rw [List.mapM_cons] at h
    cases hb : f b with
    | none => simp [hb] at h
    | some y =>
      cases hl : l.mapM f with
      | none => simp [hb, hl] at h
      | some zs =>
        rcases List.mem_cons.1 ha with rfl | h1
        · exact ⟨y, hb⟩
        · exact mapM_all hl a h1

theorem trod_struct {fs : Array Field} (ht : P.underlying t = some (.struct fs)) (h : DataW.trod enc P w base spare held fuel t cs = some x) :
    ∃ m, cs.length = P.cellsOf t ∧ ∀ f ∈ fs.toList, ∃ y, DataW.trod enc P w base spare held m f.type ((cs.drop f.offset).take (P.cellsOf f.type)) = some y := by
  cases fuel with
  | zero => simp [DataW.trod] at h
  | succ m =>
    unfold DataW.trod at h
    rw [ht] at h
    split at h <;> simp_all
    obtain ⟨hl, xs, hx, _⟩ := h
    exact ⟨m, fun f hf => by obtain ⟨⟨a, b⟩, h⟩ := mapM_all hx f (by simpa using hf); exact ⟨a, b, h⟩⟩
theorem trod_array {n : Nat} (ht : P.underlying t = some (.array n e)) (h : DataW.trod enc P w base spare held fuel t cs = some x) :
    ∃ m, cs.length = P.cellsOf t ∧ ∀ i, i < n → ∃ y, DataW.trod enc P w base spare held m e ((cs.drop (i * P.cellsOf e)).take (P.cellsOf e)) = some y := by
  cases fuel with
  | zero => simp [DataW.trod] at h
  | succ m =>
    unfold DataW.trod at h
    rw [ht] at h
    split at h <;> simp_all
    obtain ⟨hl, xs, hx, _⟩ := h
    exact ⟨m, fun i hi => by obtain ⟨⟨a, b⟩, h⟩ := mapM_all hx i (by simpa using hi); exact ⟨a, b, h⟩⟩
theorem trod_slice (ht : P.underlying t = some (.slice e)) (h : DataW.trod enc P w base spare held fuel t cs = some x) :
    cs = [.slice none 0 0] ∨ ∃ a len cap m, cs = [.slice (some a) len cap] ∧ len ≤ cap ∧ cap ≤ maxLen ∧ ∀ i, i < len → ∃ row y, w.cells? base (a.add (i * P.cellsOf e)) (P.cellsOf e) = some row ∧ DataW.trod enc P w base spare held m e row = some y := by
  cases fuel with
  | zero => simp [DataW.trod] at h
  | succ m =>
    unfold DataW.trod at h
    rw [ht] at h
    split at h <;> simp_all
    obtain ⟨⟨hb, hl, hc⟩, h⟩ := h
    simp only [Option.bind_eq_some_iff, Option.map_eq_some_iff] at h
    obtain ⟨elems, he, rest, hr, hd⟩ := h
    refine ⟨_, _, _, ⟨rfl, rfl, rfl⟩, hl, hc, m, fun i hi => ?_⟩
    obtain ⟨y, hy⟩ := mapM_all he i (by simpa using hi)
    simp only [Option.bind_eq_some_iff] at hy
    obtain ⟨row, h1, h2⟩ := hy
    exact ⟨row, h1, _, _, h2⟩
theorem trod_fld {i off n : Nat} [hf : Fld P t i off e] [hs : Size P e n] (h : DataW.trod enc P w base spare held fuel t cs = some x) : ∃ m y, DataW.trod enc P w base spare held m e ((cs.drop off).take n) = some y := by
  have hf := hf.out
  have hc : P.cellsOf e = n := by
    have := hs.out
    cases hi : P.info? e <;> simp [hi] at this
    simp [Program.cellsOf, hi, this]
  cases hu : P.underlying t with
  | none => simp [hu] at hf
  | some dd =>
    cases dd <;> simp [hu] at hf
    rename_i fs
    obtain ⟨f, hf1, hf2, hf3⟩ := hf
    obtain ⟨m, _, hall⟩ := trod_struct hu h
    have := hall f (List.mem_of_getElem? (by simpa using hf1))
    rw [hf2, hf3, hc] at this
    exact ⟨m, this⟩
theorem trod_idx {k n : Nat} [hu : Und P t (.array k e)] [hs : Size P e n] (h : DataW.trod enc P w base spare held fuel t cs = some x) (i : Nat) (hi : i < k) : ∃ m y, DataW.trod enc P w base spare held m e ((cs.drop (i * n)).take n) = some y := by
  have hc : P.cellsOf e = n := by
    have := hs.out
    cases hi : P.info? e <;> simp [hi] at this
    simp [Program.cellsOf, hi, this]
  obtain ⟨m, _, hall⟩ := trod_array hu.out h
  have := hall i hi
  rw [hc] at this
  exact ⟨m, this⟩
theorem trod_len {n : Nat} [ha : Aggr P t] [hs : Size P t n] (h : DataW.trod enc P w base spare held fuel t cs = some x) : cs.length = n := by
  have hc : P.cellsOf t = n := by
    have := hs.out
    cases hi : P.info? t <;> simp [hi] at this
    simp [Program.cellsOf, hi, this]
  have ha := ha.out
  cases hu : P.underlying t with
  | none => simp [hu] at ha
  | some dd =>
    cases dd <;> simp [hu] at ha
    · obtain ⟨m, hl, _⟩ := trod_array hu h
      rw [hl, hc]
    · obtain ⟨m, hl, _⟩ := trod_struct hu h
      rw [hl, hc]
theorem okWide_agg {r : Reach} {v : Value} [ha : Aggr P t] (h : Value.okWide P w r base t v) : ∃ l : List Value, v = .agg l.toArray := by
  have ha := ha.out
  unfold Value.okWide at h
  cases hu : P.underlying t with
  | none => simp [hu] at ha
  | some dd =>
    cases dd <;> simp [hu] at ha h
    all_goals
      obtain ⟨cs, rfl, _⟩ := h
      exact ⟨cs.toList, rfl⟩

theorem mapM_range {β : Type} {f : Nat → Option β} : ∀ (n : Nat) {ys : List β}, (List.range n).mapM f = some ys → ys.length = n ∧ ∀ i, i < n → f i = ys[i]?
  | 0, ys, h => by simp at h; subst h; simp
  | n + 1, ys, h => by
    rw [List.range_succ, List.mapM_append] at h
    cases h1 : (List.range n).mapM f with
    | none => simp [h1] at h
    | some zs =>
      cases h2 : f n with
      | none => simp [h1, h2] at h
      | some z =>
        simp [h1, h2] at h
        subst h
        obtain ⟨hl, hg⟩ := mapM_range n h1
        refine ⟨by simp [hl], fun i hi => ?_⟩
        rcases Nat.lt_or_ge i n with h3 | h3
        · rw [hg i h3, List.getElem?_append_left (by omega)]
        · obtain rfl : i = n := by omega
          rw [h2, List.getElem?_append_right (by omega), hl]
          simp
theorem cells_of {W : World} {a : Addr} {n : Nat} {row : List Value} (h : W.cells? base a n = some row) : row.length = n ∧ Cells W a row ∧ (0 < n → a.spot = none) := by
  unfold World.cells? at h
  split at h
  · obtain ⟨hl, hg⟩ := mapM_range n h
    refine ⟨hl, fun j v hj => ?_, fun hn => ?_⟩
    · have := (List.getElem?_eq_some_iff.1 hj).1
      rw [hg j (by omega)]; exact hj
    · have h0 := hg 0 hn
      rw [List.getElem?_eq_getElem (by omega)] at h0
      have e : a.add 0 = a := by simp [Addr.add]
      rw [e] at h0
      unfold World.cell? at h0
      split at h0
      · split at h0
        · simp at h0
        · rename_i hs; simpa using hs
      · simp at h0
  · simp at h
theorem choose_list {X : Type} {R : Nat → X → Prop} : ∀ n, (∀ i, i < n → ∃ p, R i p) → ∃ its : List X, its.length = n ∧ ∀ i p, its[i]? = some p → R i p
  | 0, _ => ⟨[], rfl, by simp⟩
  | n + 1, h => by
    obtain ⟨its, hl, hr⟩ := choose_list n (fun i hi => h i (by omega))
    obtain ⟨p, hp⟩ := h n (by omega)
    refine ⟨its ++ [p], by simp [hl], fun i q hq => ?_⟩
    rcases Nat.lt_or_ge i n with h3 | h3
    · rw [List.getElem?_append_left (by omega)] at hq; exact hr i q hq
    · have := (List.getElem?_eq_some_iff.1 hq).1
      simp [hl] at this
      obtain rfl : i = n := by omega
      rw [List.getElem?_append_right (by omega), hl] at hq
      simp at hq
      subst hq
      exact hp
/-- A slice that is read whole, its spare elements too: its rows, and how many it has at most. -/
theorem open_slice {W : World} {v : Value} {d : DataW H} {ps : List MemPlace} {b0 sz by' : Nat} {r : Reach} [hu : Und P t (.slice e)] [hs : Size P e sz] [hb : Bytes P e by'] {X : Type} (encX : X → List Value) (Q : X → Prop)
    (hrow : ∀ {m cs y}, DataW.trod enc P W base (fun _ => true) held m e cs = some y → ∃ p : X, cs = encX p ∧ Q p) (hby : 0 < by') (h0 : 0 < sz)
    (hsz : ∀ n ∈ d.weights P t, n ≤ reachBytes) (hv : Value.okWide P W r b0 t v) (h : DataW.Trod enc P W base (fun _ => true) held t v d ps) :
    ∃ (a : Option Addr) (cap : Nat) (its : List X), v = .slice a its.length cap ∧ Sl W a cap sz (its.map encX) ∧ ∀ p ∈ its, Q p := by
  have hu := hu.out
  have hce : P.cellsOf e = sz := by
    have := hs.out
    cases hi : P.info? e <;> simp [hi] at this
    simp [Program.cellsOf, hi, this]
  have hbe : P.bytesOf e = by' := by
    have := hb.out
    cases hi : P.info? e <;> simp [hi] at this
    simp [Program.bytesOf, hi, this]
  have hv2 : v = .slice none 0 0 ∨ ∃ a len cap, v = .slice (some a) len cap := by
    unfold Value.okWide Cell.okWide Cell.ok at hv
    simp only [hu] at hv
    split at hv <;> simp_all
  clear hv
  obtain ⟨fuel, h⟩ := h
  cases fuel with
  | zero => simp [DataW.trod] at h
  | succ m =>
    rcases hv2 with rfl | ⟨a, len, cap, rfl⟩
    · exact ⟨none, 0, [], rfl, ⟨by simp, by simp, fun _ => rfl, fun p hp => by simp at hp⟩, by simp⟩
    · unfold DataW.trod at h
      simp only [Value.cells, List.toList_toArray, hu, hce] at h
      obtain ⟨⟨hb0, hl, hc⟩, h⟩ : (base ≤ a.block ∧ len ≤ cap ∧ cap ≤ maxLen) ∧ _ := by
        split at h
        · rename_i hh; exact ⟨hh, h⟩
        · simp at h
      simp only [if_true] at h
      simp only [Option.bind_eq_some_iff, Option.map_eq_some_iff] at h
      obtain ⟨elems, he, rest, hr, hd⟩ := h
      obtain ⟨hel, heg⟩ := mapM_range _ he
      obtain ⟨hrl, _⟩ := mapM_range _ hr
      simp only [Prod.mk.injEq] at hd
      obtain ⟨rfl, _⟩ := hd
      have hlim := hsz ((elems.length + rest.length) * by') (by simp [DataW.weights, hu, hbe])
      have hcap : cap ≤ 140737488351232 := by
        have h1 : cap * 1 ≤ cap * by' := Nat.mul_le_mul_left cap hby
        have h2 : elems.length + rest.length = cap := by omega
        rw [h2] at hlim
        have h3 : reachBytes = 140737488351232 - 4096 + 4096 - 0 ∨ reachBytes < 140737488351232 + 1 := .inr (by decide)
        rcases h3 with h3 | h3 <;> omega
      obtain ⟨its, hl2, hits⟩ := choose_list (R := fun i p => (∃ s : Nat, W.cells? base (a.add (i * sz)) sz = some (encX p)) ∧ Q p) len (fun i hi => by
        have h1 := heg i hi
        rw [List.getElem?_eq_getElem (by omega)] at h1
        simp only [Option.bind_eq_some_iff] at h1
        obtain ⟨row, hr1, hr2⟩ := h1
        obtain ⟨p, hp, hq⟩ := hrow hr2
        exact ⟨p, ⟨0, hp ▸ hr1⟩, hq⟩)
      refine ⟨some a, cap, its, by rw [hl2], ⟨by simp; omega, by simp; omega, by simp, fun p hp hne => ?_⟩, fun p hp => ?_⟩
      · obtain rfl := Option.some.inj hp
        have hlen : 0 < its.length := List.length_pos_iff.2 (by simpa using hne)
        obtain ⟨⟨_, hc0⟩, _⟩ := hits 0 _ (List.getElem?_eq_getElem hlen)
        rw [Nat.zero_mul, show a.add 0 = a from by simp [Addr.add]] at hc0
        have hsp := (cells_of hc0).2.2 h0
        obtain ⟨b, k, s⟩ := a
        simp only at hsp
        subst hsp
        refine ⟨b, k, rfl, fun i r hi => ?_⟩
        rw [List.getElem?_map] at hi
        obtain ⟨q, hq, rfl⟩ := Option.map_eq_some_iff.1 hi
        obtain ⟨⟨_, hc1⟩, _⟩ := hits i q hq
        rw [add_lit] at hc1
        exact ⟨(cells_of hc1).1, (cells_of hc1).2.1⟩
      · obtain ⟨i, hi⟩ := List.getElem?_of_mem hp
        exact (hits i p hi).2
end
end Go.Proofs.Ytdjepfpmoeecaaa
