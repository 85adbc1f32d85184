/- Opening the arguments: what a reading (DataW.trod) tells of the cells it went through. Opening a plan, the calls, what lies hidden. -/
import Derived.Test.YtkdidefghbeabaaGreatM02
import Derived.WalkKit
import Derived.ProofKit
import Derived.OpenShut
import Derived.ShutString
import Derived.ChangeOld
import Derived.Below
import Derived.SizedLaws
import Derived.Test.YtkdidefghbeabaaGreatM27
namespace Go.Proofs.YtkdidefghbeabaaGreat
open Go Go.RowKit

def okI (n : Int) : Prop := -9223372036854775808 ≤ n ∧ n ≤ 9223372036854775807
theorem okI_wf {n : Int} (h : (Lit.int .i64 n).wf = true) : okI n := by
  have := bounds_i64 h
  unfold okI
  omega
section
variable {H : Type} {enc : TypeId × Value → H} {P : Program} {w : World} {base : Nat} {spare : Nat → Bool} {held : Bool} {fuel : Nat} {t e : TypeId} {cs : List Value} {x : DataW H × List MemPlace}

theorem trod_int {k : IntKind} (ht : P.underlying t = some (.int k)) (h : DataW.trod enc P w base spare held fuel t cs = some x) : ∃ n, cs = [.int k n] ∧ (Lit.int k n).wf = true := by
  cases fuel with
  | zero => simp [DataW.trod] at h
  | succ m =>
    unfold DataW.trod at h
    rw [ht] at h
    split at h <;> simp_all
theorem trod_string (ht : P.underlying t = some .string) (h : DataW.trod enc P w base spare held fuel t cs = some x) : ∃ s, cs = [.string s] ∧ s.size ≤ maxLen := by
  cases fuel with
  | zero => simp [DataW.trod] at h
  | succ m =>
    unfold DataW.trod at h
    rw [ht] at h
    split at h <;> simp_all

theorem mapM_all {α β : Type} {f : α → Option β} : ∀ {l : List α} {ys : List β}, l.mapM f = some ys → ∀ a ∈ l, ∃ y, f a = some y
  | [], _, _, a, ha => by simp at ha
  | b :: l, ys, h, a, ha => by
    rw [List.mapM_cons] at h
    cases hb : f b with
    | none => simp [hb] at h
    | some y =>
      cases hl : l.mapM f with
      | none => simp [hb, hl] at h
      | some zs =>
        rcases List.mem_cons.1 ha with rfl | h1
        · exact ⟨y, hb⟩
        · exact mapM_all hl a h1

theorem trod_struct {fs : Array Field} (ht : P.underlying t = some (.struct fs)) (h : DataW.trod enc P w base spare held fuel t cs = some x) :
    ∃ m, cs.length = P.cellsOf t ∧ ∀ f ∈ fs.toList, ∃ y, DataW.trod enc P w base spare held m f.type ((cs.drop f.offset).take (P.cellsOf f.type)) = some y := by
  cases fuel with
  | zero => simp [DataW.trod] at h
  | succ m =>
    unfold DataW.trod at h
    rw [ht] at h
    split at h <;> simp_all
    obtain ⟨hl, xs, hx, _⟩ := h
    exact ⟨m, fun f hf => by obtain ⟨⟨a, b⟩, h⟩ := mapM_all hx f (by simpa using hf); exact ⟨a, b, h⟩⟩
theorem trod_array {n : Nat} (ht : P.underlying t = some (.array n e)) (h : DataW.trod enc P w base spare held fuel t cs = some x) :
    ∃ m, cs.length = P.cellsOf t ∧ ∀ i, i < n → ∃ y, DataW.trod enc P w base spare held m e ((cs.drop (i * P.cellsOf e)).take (P.cellsOf e)) = some y := by
  cases fuel with
  | zero => simp [DataW.trod] at h
  | succ m =>
    unfold DataW.trod at h
    rw [ht] at h
    split at h <;> simp_all
    obtain ⟨hl, xs, hx, _⟩ := h
    exact ⟨m, fun i hi => by obtain ⟨⟨a, b⟩, h⟩ := mapM_all hx i (by simpa using hi); exact ⟨a, b, h⟩⟩
theorem trod_slice (ht : P.underlying t = some (.slice e)) (h : DataW.trod enc P w base spare held fuel t cs = some x) :
    cs = [.slice none 0 0] ∨ ∃ a len cap m, cs = [.slice (some a) len cap] ∧ len ≤ cap ∧ cap ≤ maxLen ∧ ∀ i, i < len → ∃ row y, w.cells? base (a.add (i * P.cellsOf e)) (P.cellsOf e) = some row ∧ DataW.trod enc P w base spare held m e row = some y := by
  cases fuel with
  | zero => simp [DataW.trod] at h
  | succ m =>
    unfold DataW.trod at h
    rw [ht] at h
    split at h <;> simp_all
    obtain ⟨⟨hb, hl, hc⟩, h⟩ := h
    simp only [Option.bind_eq_some_iff, Option.map_eq_some_iff] at h
    obtain ⟨elems, he, rest, hr, hd⟩ := h
    refine ⟨_, _, _, ⟨rfl, rfl, rfl⟩, hl, hc, m, fun i hi => ?_⟩
    obtain ⟨y, hy⟩ := mapM_all he i (by simpa using hi)
    simp only [Option.bind_eq_some_iff] at hy
    obtain ⟨row, h1, h2⟩ := hy
    exact ⟨row, h1, _, _, h2⟩
theorem trod_fld {i off n : Nat} [hf : Fld P t i off e] [hs : Size P e n] (h : DataW.trod enc P w base spare held fuel t cs = some x) : ∃ m y, DataW.trod enc P w base spare held m e ((cs.drop off).take n) = some y := by
  have hf := hf.out
  have hc : P.cellsOf e = n := by
    have := hs.out
    cases hi : P.info? e <;> simp [hi] at this
    simp [Program.cellsOf, hi, this]
  cases hu : P.underlying t with
  | none => simp [hu] at hf
  | some dd =>
    cases dd <;> simp [hu] at hf
    rename_i fs
    obtain ⟨f, hf1, hf2, hf3⟩ := hf
    obtain ⟨m, _, hall⟩ := trod_struct hu h
    have := hall f (List.mem_of_getElem? (by simpa using hf1))
    rw [hf2, hf3, hc] at this
    exact ⟨m, this⟩
theorem trod_len {n : Nat} [ha : Aggr P t] [hs : Size P t n] (h : DataW.trod enc P w base spare held fuel t cs = some x) : cs.length = n := by
  have hc : P.cellsOf t = n := by
    have := hs.out
    cases hi : P.info? t <;> simp [hi] at this
    simp [Program.cellsOf, hi, this]
  have ha := ha.out
  cases hu : P.underlying t with
  | none => simp [hu] at ha
  | some dd =>
    cases dd <;> simp [hu] at ha
    · obtain ⟨m, hl, _⟩ := trod_array hu h
      rw [hl, hc]
    · obtain ⟨m, hl, _⟩ := trod_struct hu h
      rw [hl, hc]
theorem okWide_agg {r : Reach} {v : Value} [ha : Aggr P t] (h : Value.okWide P w r base t v) : ∃ l : List Value, v = .agg l.toArray := by
  have ha := ha.out
  unfold Value.okWide at h
  cases hu : P.underlying t with
  | none => simp [hu] at ha
  | some dd =>
    cases dd <;> simp [hu] at ha h
    all_goals
      obtain ⟨cs, rfl, _⟩ := h
      exact ⟨cs.toList, rfl⟩

theorem mapM_range {β : Type} {f : Nat → Option β} : ∀ (n : Nat) {ys : List β}, (List.range n).mapM f = some ys → ys.length = n ∧ ∀ i, i < n → f i = ys[i]?
  | 0, ys, h => by simp at h; subst h; simp
  | n + 1, ys, h => by
    rw [List.range_succ, List.mapM_append] at h
    cases h1 : (List.range n).mapM f with
    | none => simp [h1] at h
    | some zs =>
      cases h2 : f n with
      | none => simp [h1, h2] at h
      | some z =>
        simp [h1, h2] at h
        subst h
        obtain ⟨hl, hg⟩ := mapM_range n h1
        refine ⟨by simp [hl], fun i hi => ?_⟩
        rcases Nat.lt_or_ge i n with h3 | h3
        · rw [hg i h3, List.getElem?_append_left (by omega)]
        · obtain rfl : i = n := by omega
          rw [h2, List.getElem?_append_right (by omega), hl]
          simp
theorem cells_of {W : World} {a : Addr} {n : Nat} {row : List Value} (h : W.cells? base a n = some row) : row.length = n ∧ Cells W a row ∧ (0 < n → a.spot = none) := by
  unfold World.cells? at h
  split at h
  · obtain ⟨hl, hg⟩ := mapM_range n h
    refine ⟨hl, fun j v hj => ?_, fun hn => ?_⟩
    · have := (List.getElem?_eq_some_iff.1 hj).1
      rw [hg j (by omega)]; exact hj
    · have h0 := hg 0 hn
      rw [List.getElem?_eq_getElem (by omega)] at h0
      have e : a.add 0 = a := by simp [Addr.add]
      rw [e] at h0
      unfold World.cell? at h0
      split at h0
      · split at h0
        · simp at h0
        · rename_i hs; simpa using hs
      · simp at h0
  · simp at h
theorem choose_list {X : Type} {R : Nat → X → Prop} : ∀ n, (∀ i, i < n → ∃ p, R i p) → ∃ its : List X, its.length = n ∧ ∀ i p, its[i]? = some p → R i p
  | 0, _ => ⟨[], rfl, by simp⟩
  | n + 1, h => by
    obtain ⟨its, hl, hr⟩ := choose_list n (fun i hi => h i (by omega))
    obtain ⟨p, hp⟩ := h n (by omega)
    refine ⟨its ++ [p], by simp [hl], fun i q hq => ?_⟩
    rcases Nat.lt_or_ge i n with h3 | h3
    · rw [List.getElem?_append_left (by omega)] at hq; exact hr i q hq
    · have := (List.getElem?_eq_some_iff.1 hq).1
      simp [hl] at this
      obtain rfl : i = n := by omega
      rw [List.getElem?_append_right (by omega), hl] at hq
      simp at hq
      subst hq
      exact hp
/-- A slice that is read whole, its spare elements too: its rows, and how many it has at most. -/
theorem open_slice {W : World} {v : Value} {d : DataW H} {ps : List MemPlace} {b0 sz by' : Nat} {r : Reach} [hu : Und P t (.slice e)] [hs : Size P e sz] [hb : Bytes P e by'] {X : Type} (encX : X → List Value) (Q : X → Prop)
    (hrow : ∀ {m cs y}, DataW.trod enc P W base (fun _ => true) held m e cs = some y → ∃ p : X, cs = encX p ∧ Q p) (hby : 0 < by') (h0 : 0 < sz)
    (hsz : ∀ n ∈ d.weights P t, n ≤ reachBytes) (hv : Value.okWide P W r b0 t v) (h : DataW.Trod enc P W base (fun _ => true) held t v d ps) :
    ∃ (a : Option Addr) (cap : Nat) (its : List X), v = .slice a its.length cap ∧ Sl W a cap sz (its.map encX) ∧ ∀ p ∈ its, Q p := by
  have hu := hu.out
  have hce : P.cellsOf e = sz := by
    have := hs.out
    cases hi : P.info? e <;> simp [hi] at this
    simp [Program.cellsOf, hi, this]
  have hbe : P.bytesOf e = by' := by
    have := hb.out
    cases hi : P.info? e <;> simp [hi] at this
    simp [Program.bytesOf, hi, this]
  have hv2 : v = .slice none 0 0 ∨ ∃ a len cap, v = .slice (some a) len cap := by
    unfold Value.okWide Cell.okWide Cell.ok at hv
    simp only [hu] at hv
    split at hv <;> simp_all
  clear hv
  obtain ⟨fuel, h⟩ := h
  cases fuel with
  | zero => simp [DataW.trod] at h
  | succ m =>
    rcases hv2 with rfl | ⟨a, len, cap, rfl⟩
    · exact ⟨none, 0, [], rfl, ⟨by simp, by simp, fun _ => rfl, fun p hp => by simp at hp⟩, by simp⟩
    · unfold DataW.trod at h
      simp only [Value.cells, List.toList_toArray, hu, hce] at h
      obtain ⟨⟨hb0, hl, hc⟩, h⟩ : (base ≤ a.block ∧ len ≤ cap ∧ cap ≤ maxLen) ∧ _ := by
        split at h
        · rename_i hh; exact ⟨hh, h⟩
        · simp at h
      simp only [if_true] at h
      simp only [Option.bind_eq_some_iff, Option.map_eq_some_iff] at h
      obtain ⟨elems, he, rest, hr, hd⟩ := h
      obtain ⟨hel, heg⟩ := mapM_range _ he
      obtain ⟨hrl, _⟩ := mapM_range _ hr
      simp only [Prod.mk.injEq] at hd
      obtain ⟨rfl, _⟩ := hd
      have hlim := hsz ((elems.length + rest.length) * by') (by simp [DataW.weights, hu, hbe])
      have hcap : cap ≤ 140737488351232 := by
        have h1 : cap * 1 ≤ cap * by' := Nat.mul_le_mul_left cap hby
        have h2 : elems.length + rest.length = cap := by omega
        rw [h2] at hlim
        have h3 : reachBytes = 140737488351232 - 4096 + 4096 - 0 ∨ reachBytes < 140737488351232 + 1 := .inr (by decide)
        rcases h3 with h3 | h3 <;> omega
      obtain ⟨its, hl2, hits⟩ := choose_list (R := fun i p => (∃ s : Nat, W.cells? base (a.add (i * sz)) sz = some (encX p)) ∧ Q p) len (fun i hi => by
        have h1 := heg i hi
        rw [List.getElem?_eq_getElem (by omega)] at h1
        simp only [Option.bind_eq_some_iff] at h1
        obtain ⟨row, hr1, hr2⟩ := h1
        obtain ⟨p, hp, hq⟩ := hrow hr2
        exact ⟨p, ⟨0, hp ▸ hr1⟩, hq⟩)
      refine ⟨some a, cap, its, by rw [hl2], ⟨by simp; omega, by simp; omega, by simp, fun p hp hne => ?_⟩, fun p hp => ?_⟩
      · obtain rfl := Option.some.inj hp
        have hlen : 0 < its.length := List.length_pos_iff.2 (by simpa using hne)
        obtain ⟨⟨_, hc0⟩, _⟩ := hits 0 _ (List.getElem?_eq_getElem hlen)
        rw [Nat.zero_mul, show a.add 0 = a from by simp [Addr.add]] at hc0
        have hsp := (cells_of hc0).2.2 h0
        obtain ⟨b, k, s⟩ := a
        simp only at hsp
        subst hsp
        refine ⟨b, k, rfl, fun i r hi => ?_⟩
        rw [List.getElem?_map] at hi
        obtain ⟨q, hq, rfl⟩ := Option.map_eq_some_iff.1 hi
        obtain ⟨⟨_, hc1⟩, _⟩ := hits i q hq
        rw [add_lit] at hc1
        exact ⟨(cells_of hc1).1, (cells_of hc1).2.1⟩
      · obtain ⟨i, hi⟩ := List.getElem?_of_mem hp
        exact (hits i p hi).2
end
end Go.Proofs.YtkdidefghbeabaaGreat
namespace Go.Proofs.YtkdidefghbeabaaGreat
open Go Go.RowKit
set_option maxRecDepth 10000
set_option linter.unusedSimpArgs false
set_option linter.unusedVariables false

section
variable {H : Type} {enc : TypeId × Value → H} {P : Program} {W : World} {base : Nat} {held : Bool} {fuel : Nat} {t e : TypeId} {cs : List Value} {x : DataW H × List MemPlace}

theorem mapM_idx {α β : Type} {f : α → Option β} : ∀ {l : List α} {ys : List β}, l.mapM f = some ys → ∀ {i : Nat} {a : α}, l[i]? = some a → ∃ y, ys[i]? = some y ∧ f a = some y
  | [], _, _, i, a, ha => by simp at ha
  | b :: l, ys, h, i, a, ha => by
    rw [List.mapM_cons] at h
    cases hb : f b with
    | none => simp [hb] at h
    | some y =>
      cases hl : l.mapM f with
      | none => simp [hb, hl] at h
      | some zs =>
        simp [hb, hl] at h
        subst h
        cases i with
        | zero =>
          simp at ha
          subst ha
          exact ⟨y, rfl, hb⟩
        | succ i => exact mapM_idx hl (i := i) (by simpa using ha)
theorem weights_all {ds : List (DataW H)} {i : Nat} {d : DataW H} (h : ds[i]? = some d) : ∀ n ∈ d.weights P e, n ∈ DataW.weightsAll P e ds := by
  induction ds generalizing i with
  | nil => simp at h
  | cons a ds ih =>
    intro n hn
    rw [DataW.weightsAll]
    cases i with
    | zero =>
      simp at h
      subst h
      exact List.mem_append_left _ hn
    | succ i => exact List.mem_append_right _ (ih (i := i) (by simpa using h) n hn)
/-- A field, and that what it weighs is of the whole's. -/
theorem trod_fldw {spare : Nat → Bool} {i off n : Nat} [hf : Fld P t i off e] [hs : Size P e n] (h : DataW.trod enc P W base spare held fuel t cs = some x) : ∃ m y, DataW.trod enc P W base spare held m e ((cs.drop off).take n) = some y ∧ ∀ k ∈ y.1.weights P e, k ∈ x.1.weights P t := by
  have hf := hf.out
  have hc : P.cellsOf e = n := by
    have := hs.out
    cases hi : P.info? e <;> simp [hi] at this
    simp [Program.cellsOf, hi, this]
  cases hu : P.underlying t with
  | none => simp [hu] at hf
  | some dd =>
    cases dd <;> simp [hu] at hf
    rename_i fs
    obtain ⟨f, hf1, hf2, hf3⟩ := hf
    cases fuel with
    | zero => simp [DataW.trod] at h
    | succ m =>
      unfold DataW.trod at h
      rw [hu] at h
      have h2 : ∃ xs, (fs.toList.mapM fun f => DataW.trod enc P W base spare held m f.type ((cs.drop f.offset).take (P.cellsOf f.type))) = some xs ∧ x = (.agg (xs.map (·.1)), xs.flatMap (·.2)) := by
        split at h <;> simp_all
        obtain ⟨_, xs, hx, rfl⟩ := h
        exact ⟨xs, hx, rfl⟩
      obtain ⟨xs, hx, rfl⟩ := h2
      have hfl : fs.toList[i]? = some f := by simpa using hf1
      obtain ⟨y, hy, hz⟩ := mapM_idx hx hfl
      rw [hf2, hf3, hc] at hz
      refine ⟨m, y, hz, fun k hk => ?_⟩
      simp only [DataW.weights, hu]
      exact DataW.weights_mem_each (j := i) (t := e) (d := y.1) (by simp [hfl, hf3]) (by simp [hy]) k hk
/-- A slice that is read whole, its spare elements too, and rows that may bear slices. -/
theorem nest_slice {sz by' : Nat} [hu : Und P t (.slice e)] [hs : Size P e sz] [hb : Bytes P e by'] {X : Type} (R : List Value → X → Prop)
    (hrow : ∀ {m cs y}, DataW.trod enc P W base (fun _ => true) held m e cs = some y → (∀ n ∈ y.1.weights P e, n ≤ reachBytes) → ∃ p : X, R cs p) (hby : 0 < by') (h0 : 0 < sz)
    (hsz : ∀ n ∈ x.1.weights P t, n ≤ reachBytes) (h : DataW.trod enc P W base (fun _ => true) held fuel t cs = some x) :
    ∃ (a : Option Addr) (cap : Nat) (css : List (List Value)) (its : List X), cs = [.slice a its.length cap] ∧ css.length = its.length ∧ Sl W a cap sz css ∧ ∀ (i : Nat) (cs : List Value) (p : X), css[i]? = some cs → its[i]? = some p → R cs p := by
  have hu := hu.out
  have hce : P.cellsOf e = sz := by
    have := hs.out
    cases hi : P.info? e <;> simp [hi] at this
    simp [Program.cellsOf, hi, this]
  have hbe : P.bytesOf e = by' := by
    have := hb.out
    cases hi : P.info? e <;> simp [hi] at this
    simp [Program.bytesOf, hi, this]
  have hv2 : cs = [.slice none 0 0] ∨ ∃ a len cap, cs = [.slice (some a) len cap] := by
    rcases trod_slice hu h with h | ⟨a, len, cap, m, h, _⟩
    · exact .inl h
    · exact .inr ⟨a, len, cap, h⟩
  cases fuel with
  | zero => simp [DataW.trod] at h
  | succ m =>
    rcases hv2 with rfl | ⟨a, len, cap, rfl⟩
    · exact ⟨none, 0, [], [], rfl, rfl, ⟨by simp, by simp, fun _ => rfl, fun p hp => by simp at hp⟩, by simp⟩
    · unfold DataW.trod at h
      simp only [hu, hce] at h
      obtain ⟨⟨hb0, hl, hc⟩, h⟩ : (base ≤ a.block ∧ len ≤ cap ∧ cap ≤ maxLen) ∧ _ := by
        split at h
        · rename_i hh; exact ⟨hh, h⟩
        · simp at h
      simp only [if_true] at h
      simp only [Option.bind_eq_some_iff, Option.map_eq_some_iff] at h
      obtain ⟨elems, he, rest, hr, hd⟩ := h
      obtain ⟨hel, heg⟩ := mapM_range _ he
      obtain ⟨hrl, _⟩ := mapM_range _ hr
      subst hd
      have hwe : ∀ (i : Nat) y, elems[i]? = some y → ∀ n ∈ y.1.weights P e, n ≤ reachBytes := fun i y hy n hn => by
        refine hsz n ?_
        simp only [DataW.weights, hu]
        exact List.mem_cons_of_mem _ (List.mem_append_left _ (weights_all (i := i) (d := y.1) (by simp [hy]) n hn))
      have hlim := hsz ((elems.length + rest.length) * by') (by simp [DataW.weights, hu, hbe])
      have hcap : cap ≤ 140737488351232 := by
        have h1 : cap * 1 ≤ cap * by' := Nat.mul_le_mul_left cap hby
        have h2 : elems.length + rest.length = cap := by omega
        rw [h2] at hlim
        have h3 : reachBytes < 140737488351232 + 1 := by decide
        omega
      obtain ⟨its, hl2, hits⟩ := choose_list (R := fun i (p : List Value × X) => W.cells? base (a.add (i * sz)) sz = some p.1 ∧ R p.1 p.2) len (fun i hi => by
        have h1 := heg i hi
        rw [List.getElem?_eq_getElem (by omega)] at h1
        simp only [Option.bind_eq_some_iff] at h1
        obtain ⟨row, hr1, hr2⟩ := h1
        obtain ⟨p, hp⟩ := hrow hr2 (hwe i _ (List.getElem?_eq_getElem (by omega)))
        exact ⟨(row, p), hr1, hp⟩)
      refine ⟨some a, cap, its.map (·.1), its.map (·.2), by simp [hl2], by simp, ⟨by simp; omega, by simp; omega, by simp, fun p hp hne => ?_⟩, fun i cs p h1 h2 => ?_⟩
      · obtain rfl := Option.some.inj hp
        have hlen : 0 < its.length := List.length_pos_iff.2 (by simpa using hne)
        obtain ⟨hc0, _⟩ := hits 0 _ (List.getElem?_eq_getElem hlen)
        rw [Nat.zero_mul, show a.add 0 = a from by simp [Addr.add]] at hc0
        have hsp := (cells_of hc0).2.2 h0
        obtain ⟨b, k, s⟩ := a
        simp only at hsp
        subst hsp
        refine ⟨b, k, rfl, fun i r hi => ?_⟩
        rw [List.getElem?_map] at hi
        obtain ⟨q, hq, rfl⟩ := Option.map_eq_some_iff.1 hi
        obtain ⟨hc1, _⟩ := hits i q hq
        rw [add_lit] at hc1
        exact ⟨(cells_of hc1).1, (cells_of hc1).2.1⟩
      · rw [List.getElem?_map] at h1 h2
        obtain ⟨q, hq, rfl⟩ := Option.map_eq_some_iff.1 h1
        rw [hq] at h2
        simp at h2
        subst h2
        exact (hits i q hq).2
theorem flat_slice {sz by' : Nat} [hu : Und P t (.slice e)] [hs : Size P e sz] [hb : Bytes P e by'] {X : Type} (encX : X → List Value) (Q : X → Prop)
    (hrow : ∀ {m cs y}, DataW.trod enc P W base (fun _ => true) held m e cs = some y → ∃ p : X, cs = encX p ∧ Q p) (hby : 0 < by') (h0 : 0 < sz)
    (hsz : ∀ n ∈ x.1.weights P t, n ≤ reachBytes) (h : DataW.trod enc P W base (fun _ => true) held fuel t cs = some x) :
    ∃ (a : Option Addr) (cap : Nat) (its : List X), cs = [.slice a its.length cap] ∧ Sl W a cap sz (its.map encX) ∧ ∀ p ∈ its, Q p := by
  obtain ⟨a, cap, css, its, rfl, hl, hS, hr⟩ := nest_slice (fun cs p => cs = encX p ∧ Q p) (fun h1 _ => hrow h1) hby h0 hsz h
  have e : css = its.map encX := by
    refine List.ext_getElem? fun i => ?_
    rw [List.getElem?_map]
    rcases Nat.lt_or_ge i css.length with h2 | h2
    · rw [List.getElem?_eq_getElem h2, List.getElem?_eq_getElem (by omega)]
      simp only [Option.map_some, Option.some.injEq]
      exact (hr i _ _ (List.getElem?_eq_getElem h2) (List.getElem?_eq_getElem (by omega))).1
    · rw [List.getElem?_eq_none h2, List.getElem?_eq_none (by omega)]
      rfl
  subst e
  refine ⟨a, cap, its, rfl, hS, fun p hp => ?_⟩
  obtain ⟨i, hi, rfl⟩ := List.getElem_of_mem hp
  exact (hr i _ _ (List.getElem?_eq_getElem (by simpa using hi)) (List.getElem?_eq_getElem hi)).2
end

theorem u8_ge {n : Int} (h : (Lit.int .u8 n).wf = true) : 0 ≤ n := by
  simp [Lit.wf, IntKind.min, IntKind.max, IntKind.bits, IntKind.signed] at h
  omega

structure OpF where
  f1 : Int
  f2 : Int
  f3 : ByteArray
def OpF.enc (x : OpF) : List Value := [.int .i64 x.f1, .int .i64 x.f2, .string x.f3]
def OpF.ok (x : OpF) : Prop := okI x.f1 ∧ okI x.f2 ∧ True
theorem row_OpF {H : Type} {enc : TypeId × Value → H} {W : World} {base fuel : Nat} {spare : Nat → Bool} {held : Bool} {cs : List Value} {y : DataW H × List MemPlace} (h : DataW.trod enc Tryz.prog W base spare held fuel 41 cs = some y) : ∃ p : OpF, cs = p.enc ∧ p.ok := by
  have hl := trod_len h
  replace hl := len_cons hl
  obtain ⟨x0, cs, rfl, hl⟩ := hl
  replace hl := len_cons hl
  obtain ⟨x1, cs, rfl, hl⟩ := hl
  replace hl := len_cons hl
  obtain ⟨x2, cs, rfl, hl⟩ := hl
  replace hl := len_nil hl
  subst hl
  obtain ⟨m0, y0, h0⟩ := trod_fld (i := 0) h
  obtain ⟨m1, y1, h1⟩ := trod_fld (i := 1) h
  obtain ⟨m2, y2, h2⟩ := trod_fld (i := 2) h
  obtain ⟨n0, e0, w0⟩ := trod_int Und.out h0
  obtain ⟨n1, e1, w1⟩ := trod_int Und.out h1
  obtain ⟨n2, e2, w2⟩ := trod_string Und.out h2
  simp at e0 e1 e2
  subst e0 e1 e2
  exact ⟨⟨n0, n1, n2⟩, rfl, okI_wf w0, okI_wf w1, trivial⟩
structure ActF where
  f1 : ByteArray
  f2 : Int
def ActF.enc (x : ActF) : List Value := [.string x.f1, .int .i64 x.f2]
def ActF.ok (x : ActF) : Prop := okI x.f2 ∧ True
theorem row_ActF {H : Type} {enc : TypeId × Value → H} {W : World} {base fuel : Nat} {spare : Nat → Bool} {held : Bool} {cs : List Value} {y : DataW H × List MemPlace} (h : DataW.trod enc Tryz.prog W base spare held fuel 96 cs = some y) : ∃ p : ActF, cs = p.enc ∧ p.ok := by
  have hl := trod_len h
  replace hl := len_cons hl
  obtain ⟨x0, cs, rfl, hl⟩ := hl
  replace hl := len_cons hl
  obtain ⟨x1, cs, rfl, hl⟩ := hl
  replace hl := len_nil hl
  subst hl
  obtain ⟨m0, y0, h0⟩ := trod_fld (i := 0) h
  obtain ⟨m1, y1, h1⟩ := trod_fld (i := 1) h
  obtain ⟨n0, e0, w0⟩ := trod_string Und.out h0
  obtain ⟨n1, e1, w1⟩ := trod_int Und.out h1
  simp at e0 e1
  subst e0 e1
  exact ⟨⟨n0, n1⟩, rfl, okI_wf w1, trivial⟩
structure PrmF where
  f1 : Int
  f2 : Int
  f3 : Int
  f4 : Int
  f5 : Int
  f6 : Int
  f7 : Int
def PrmF.enc (x : PrmF) : List Value := [.int .i64 x.f1, .int .i64 x.f2, .int .i64 x.f3, .int .i64 x.f4, .int .i64 x.f5, .int .i64 x.f6, .int .i64 x.f7]
def PrmF.ok (x : PrmF) : Prop := okI x.f1 ∧ okI x.f2 ∧ okI x.f3 ∧ okI x.f4 ∧ okI x.f5 ∧ okI x.f6 ∧ okI x.f7 ∧ True
theorem row_PrmF {H : Type} {enc : TypeId × Value → H} {W : World} {base fuel : Nat} {spare : Nat → Bool} {held : Bool} {cs : List Value} {y : DataW H × List MemPlace} (h : DataW.trod enc Tryz.prog W base spare held fuel 28 cs = some y) : ∃ p : PrmF, cs = p.enc ∧ p.ok := by
  have hl := trod_len h
  replace hl := len_cons hl
  obtain ⟨x0, cs, rfl, hl⟩ := hl
  replace hl := len_cons hl
  obtain ⟨x1, cs, rfl, hl⟩ := hl
  replace hl := len_cons hl
  obtain ⟨x2, cs, rfl, hl⟩ := hl
  replace hl := len_cons hl
  obtain ⟨x3, cs, rfl, hl⟩ := hl
  replace hl := len_cons hl
  obtain ⟨x4, cs, rfl, hl⟩ := hl
  replace hl := len_cons hl
  obtain ⟨x5, cs, rfl, hl⟩ := hl
  replace hl := len_cons hl
  obtain ⟨x6, cs, rfl, hl⟩ := hl
  replace hl := len_nil hl
  subst hl
  obtain ⟨m0, y0, h0⟩ := trod_fld (i := 0) h
  obtain ⟨m1, y1, h1⟩ := trod_fld (i := 1) h
  obtain ⟨m2, y2, h2⟩ := trod_fld (i := 2) h
  obtain ⟨m3, y3, h3⟩ := trod_fld (i := 3) h
  obtain ⟨m4, y4, h4⟩ := trod_fld (i := 4) h
  obtain ⟨m5, y5, h5⟩ := trod_fld (i := 5) h
  obtain ⟨m6, y6, h6⟩ := trod_fld (i := 6) h
  obtain ⟨n0, e0, w0⟩ := trod_int Und.out h0
  obtain ⟨n1, e1, w1⟩ := trod_int Und.out h1
  obtain ⟨n2, e2, w2⟩ := trod_int Und.out h2
  obtain ⟨n3, e3, w3⟩ := trod_int Und.out h3
  obtain ⟨n4, e4, w4⟩ := trod_int Und.out h4
  obtain ⟨n5, e5, w5⟩ := trod_int Und.out h5
  obtain ⟨n6, e6, w6⟩ := trod_int Und.out h6
  simp at e0 e1 e2 e3 e4 e5 e6
  subst e0 e1 e2 e3 e4 e5 e6
  exact ⟨⟨n0, n1, n2, n3, n4, n5, n6⟩, rfl, okI_wf w0, okI_wf w1, okI_wf w2, okI_wf w3, okI_wf w4, okI_wf w5, okI_wf w6, trivial⟩
section
variable {H : Type} {enc : TypeId × Value → H} {W : World} {base fuel : Nat} {held : Bool} {cs : List Value} {x : DataW H × List MemPlace}


theorem row_ints (hsz : ∀ n ∈ x.1.weights Tryz.prog 98, n ≤ reachBytes) (h : DataW.trod enc Tryz.prog W base (fun _ => true) held fuel 98 cs = some x) : ∃ v l, cs = [v] ∧ IntsAt W v l := by
  obtain ⟨a, cap, its, rfl, hS, _⟩ := flat_slice encI (fun _ => True) (fun h => by
    obtain ⟨n, rfl, _⟩ := trod_int Und.out h
    exact ⟨n, rfl, trivial⟩) (by decide) (by decide) hsz h
  exact ⟨_, its, rfl, a, cap, rfl, hS⟩
theorem row_strs (hsz : ∀ n ∈ x.1.weights Tryz.prog 22, n ≤ reachBytes) (h : DataW.trod enc Tryz.prog W base (fun _ => true) held fuel 22 cs = some x) : ∃ v l, cs = [v] ∧ StrsAt W v l := by
  obtain ⟨a, cap, its, rfl, hS, _⟩ := flat_slice encS (fun _ => True) (fun h => by
    obtain ⟨n, rfl, _⟩ := trod_string Und.out h
    exact ⟨n.data.toList, rfl, trivial⟩) (by decide) (by decide) hsz h
  exact ⟨_, its, rfl, a, cap, rfl, hS⟩
theorem row_acts (hsz : ∀ n ∈ x.1.weights Tryz.prog 24, n ≤ reachBytes) (h : DataW.trod enc Tryz.prog W base (fun _ => true) held fuel 24 cs = some x) : ∃ v l, cs = [v] ∧ ActsAt W v l := by
  obtain ⟨a, cap, its, rfl, hS, _⟩ := flat_slice PAct.enc (fun _ => True) (fun h => by
    obtain ⟨p, rfl, _⟩ := row_ActF h
    exact ⟨⟨p.f1.data.toList, p.f2⟩, rfl, trivial⟩) (by decide) (by decide) hsz h
  exact ⟨_, its, rfl, a, cap, rfl, hS⟩
theorem row_dfa (hsz : ∀ n ∈ x.1.weights Tryz.prog 101, n ≤ reachBytes) (h : DataW.trod enc Tryz.prog W base (fun _ => true) held fuel 101 cs = some x) : ∃ d : PDfa, DfaAt W cs d := by
  have hl := trod_len h
  replace hl := len_cons hl
  obtain ⟨x0, l, rfl, hl⟩ := hl
  replace hl := len_cons hl
  obtain ⟨x1, l, rfl, hl⟩ := hl
  replace hl := len_cons hl
  obtain ⟨x2, l, rfl, hl⟩ := hl
  replace hl := len_cons hl
  obtain ⟨x3, l, rfl, hl⟩ := hl
  replace hl := len_cons hl
  obtain ⟨x4, l, rfl, hl⟩ := hl
  replace hl := len_nil hl
  subst hl
  obtain ⟨m0, y0, h0, w0⟩ := trod_fldw (i := 0) h
  obtain ⟨m1, y1, h1, w1⟩ := trod_fldw (i := 1) h
  obtain ⟨m2, y2, h2, w2⟩ := trod_fldw (i := 2) h
  obtain ⟨m3, y3, h3, w3⟩ := trod_fldw (i := 3) h
  obtain ⟨m4, y4, h4, w4⟩ := trod_fldw (i := 4) h
  obtain ⟨v0, l0, e0, k0⟩ := row_ints (fun n hn => hsz n (w0 n hn)) h0
  obtain ⟨n1, e1, _⟩ := trod_int Und.out h1
  obtain ⟨a, cap, css, its, e2, hcl, hS, hR⟩ := nest_slice (RowAt W) (fun h1 hw => by
    obtain ⟨v, l, rfl, hi⟩ := row_ints hw h1
    exact ⟨l, v, rfl, hi⟩) (by decide) (by decide) (fun n hn => hsz n (w2 n hn)) h2
  obtain ⟨v3, l3, e3, k3⟩ := row_ints (fun n hn => hsz n (w3 n hn)) h3
  obtain ⟨n4, e4, _⟩ := trod_int Und.out h4
  simp at e0 e1 e2 e3 e4
  subst e0 e1 e2 e3 e4
  exact ⟨⟨l0, n1, its, l3, n4⟩, _, _, _, rfl, k0, ⟨a, cap, css, rfl, hcl, hS, hR⟩, k3⟩
theorem row_lex (hsz : ∀ n ∈ x.1.weights Tryz.prog 26, n ≤ reachBytes) (h : DataW.trod enc Tryz.prog W base (fun _ => true) held fuel 26 cs = some x) : ∃ vm vd va L, cs = [vm, vd, va] ∧ LexAt W [vm, vd, va] L := by
  have hl := trod_len h
  replace hl := len_cons hl
  obtain ⟨x0, l, rfl, hl⟩ := hl
  replace hl := len_cons hl
  obtain ⟨x1, l, rfl, hl⟩ := hl
  replace hl := len_cons hl
  obtain ⟨x2, l, rfl, hl⟩ := hl
  replace hl := len_nil hl
  subst hl
  obtain ⟨m0, y0, h0, w0⟩ := trod_fldw (i := 0) h
  obtain ⟨m1, y1, h1, w1⟩ := trod_fldw (i := 1) h
  obtain ⟨m2, y2, h2, w2⟩ := trod_fldw (i := 2) h
  obtain ⟨v0, l0, e0, k0⟩ := row_strs (fun n hn => hsz n (w0 n hn)) h0
  obtain ⟨a, cap, css, its, e1, hcl, hS, hR⟩ := nest_slice (DfaAt W) (fun h1 hw => row_dfa hw h1) (by decide) (by decide) (fun n hn => hsz n (w1 n hn)) h1
  obtain ⟨v2, l2, e2, k2⟩ := row_acts (fun n hn => hsz n (w2 n hn)) h2
  simp at e0 e1 e2
  subst e0 e1 e2
  exact ⟨_, _, _, ⟨l0, its, l2⟩, rfl, _, _, _, rfl, k0, ⟨a, cap, css, rfl, hcl, hS, hR⟩, k2⟩
theorem row_plan (hsz : ∀ n ∈ x.1.weights Tryz.prog 30, n ≤ reachBytes) (h : DataW.trod enc Tryz.prog W base (fun _ => true) held fuel 30 cs = some x) : ∃ vm vd va q, cs = PPlan.enc q vm vd va ∧ LexAt W [vm, vd, va] q.L := by
  have hl := trod_len h
  replace hl := len_cons hl
  obtain ⟨x0, l, rfl, hl⟩ := hl
  replace hl := len_cons hl
  obtain ⟨x1, l, rfl, hl⟩ := hl
  replace hl := len_cons hl
  obtain ⟨x2, l, rfl, hl⟩ := hl
  replace hl := len_cons hl
  obtain ⟨x3, l, rfl, hl⟩ := hl
  obtain ⟨m0, y0, h0, w0⟩ := trod_fldw (i := 0) h
  obtain ⟨m1, y1, h1, w1⟩ := trod_fldw (i := 1) h
  obtain ⟨m2, y2, h2, w2⟩ := trod_fldw (i := 2) h
  obtain ⟨vm, vd, va, L, e0, k0⟩ := row_lex (fun n hn => hsz n (w0 n hn)) h0
  obtain ⟨n1, e1, _⟩ := trod_int Und.out h1
  obtain ⟨p, e2, _⟩ := row_PrmF h2
  simp only [List.drop_zero, List.take_succ_cons, List.take_zero, List.drop_succ_cons, List.cons.injEq, and_true, List.take_of_length_le (Nat.le_of_eq hl)] at e0 e1 e2
  obtain ⟨rfl, rfl, rfl⟩ := e0
  subst e1
  subst e2
  exact ⟨_, _, _, ⟨L, n1, ⟨p.f1, p.f2, p.f3, p.f4, p.f5, p.f6, p.f7⟩⟩, rfl, k0⟩
end
section
variable {H : Type} {enc : TypeId × Value → H} {W : World} {b0 base : Nat} {held : Bool} {v : Value} {d : DataW H} {ps : List MemPlace}
theorem open_plan (hsz : ∀ n ∈ d.weights Tryz.prog 30, n ≤ reachBytes) (hv : Value.okWide Tryz.prog W .any b0 30 v) (h : DataW.Trod enc Tryz.prog W base (fun _ => true) held 30 v d ps) : ∃ vm vd va q, v = .agg (PPlan.enc q vm vd va).toArray ∧ LexAt W [vm, vd, va] q.L := by
  obtain ⟨l, rfl⟩ := okWide_agg hv
  obtain ⟨fuel, h⟩ := h
  simp only [Value.cells, List.toList_toArray] at h
  obtain ⟨vm, vd, va, q, rfl, hL⟩ := row_plan (x := (d, ps)) hsz h
  exact ⟨vm, vd, va, q, rfl, hL⟩
theorem open_pops {r : Reach} (hsz : ∀ n ∈ d.weights Tryz.prog 31, n ≤ reachBytes) (hv : Value.okWide Tryz.prog W r b0 31 v) (h : DataW.Trod enc Tryz.prog W base (fun _ => true) held 31 v d ps) : ∃ ops, OpsAt W v ops := by
  obtain ⟨a, cap, its, rfl, hS, _⟩ := open_slice POp.enc (fun _ => True) (fun h => by
    obtain ⟨p, rfl, _⟩ := row_OpF h
    exact ⟨⟨p.f1, p.f2, p.f3.data.toList⟩, rfl, trivial⟩) (by decide) (by decide) hsz hv h
  exact ⟨its, a, cap, rfl, hS⟩
theorem open_hid {r : Reach} (hsz : ∀ n ∈ d.weights Tryz.prog 32, n ≤ reachBytes) (hv : Value.okWide Tryz.prog W r b0 32 v) (h : DataW.Trod enc Tryz.prog W base (fun _ => true) held 32 v d ps) : ∃ hid, HidAt W v hid := by
  obtain ⟨a, cap, its, rfl, hS, hp⟩ := open_slice encH (fun n => 0 ≤ n) (fun h => by
    obtain ⟨n, rfl, hw⟩ := trod_int Und.out h
    exact ⟨n, rfl, u8_ge hw⟩) (by decide) (by decide) hsz hv h
  exact ⟨its, a, cap, rfl, hS, hp⟩
end
end Go.Proofs.YtkdidefghbeabaaGreat
