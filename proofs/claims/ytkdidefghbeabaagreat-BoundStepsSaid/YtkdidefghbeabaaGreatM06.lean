/- The cache in plain lists: a heap's order, the document's list, and how both stand to one another. The cache's heap of places: Len, Less, Swap, Push, Pop; Go's container/heap. Bytes: strings as lists; make, copy, append and conversion of bytes. -/
import Derived.Test.YtkdidefghbeabaaGreatM01
import Derived.Test.YtkdidefghbeabaaGreatM03
import Derived.Test.YtkdidefghbeabaaGreatM05
import Derived.Lib.BufferWrite
import Derived.Laws.CopyRow
import Derived.Laws.BytesString
import Derived.Laws.MakeOwn
import Derived.Laws.Slices
namespace Go.Proofs.YtkdidefghbeabaaGreat
set_option linter.unusedSimpArgs false
set_option linter.unusedVariables false

def swp (h : List Int) (i j : Nat) : List Int := (h.set i (h.getD j 0)).set j (h.getD i 0)
theorem swp_len (h : List Int) (i j : Nat) : (swp h i j).length = h.length := by simp [swp]
theorem getD_set (h : List Int) (i k : Nat) (x : Int) (hi : i < h.length) : (h.set i x).getD k 0 = if k = i then x else h.getD k 0 := by
  simp only [List.getD_eq_getElem?_getD, List.getElem?_set]
  by_cases hk : k = i
  · subst hk; simp [hi]
  · simp [hk, Ne.symm hk]
theorem swp_getD (h : List Int) (i j k : Nat) (hi : i < h.length) (hj : j < h.length) : (swp h i j).getD k 0 = if k = j then h.getD i 0 else if k = i then h.getD j 0 else h.getD k 0 := by
  unfold swp
  rw [getD_set _ _ _ _ (by simpa using hj), getD_set _ _ _ _ hi]
theorem swp_perm (h : List Int) (i j : Nat) (hi : i < h.length) (hj : j < h.length) : (swp h i j).Perm h := by
  unfold swp
  have e1 : h.getD j 0 = h[j] := by simp [List.getD_eq_getElem?_getD, hj]
  have e2 : h.getD i 0 = h[i] := by simp [List.getD_eq_getElem?_getD, hi]
  rw [e1, e2]
  exact List.set_set_perm hi hj

/-- A heap's order, of the first n. -/
def Hp (h : List Int) (n : Nat) : Prop := ∀ k, 0 < k → k < n → h.getD ((k - 1) / 2) 0 ≤ h.getD k 0
def HpUp (h : List Int) (n j : Nat) : Prop := (∀ k, 0 < k → k < n → k ≠ j → h.getD ((k - 1) / 2) 0 ≤ h.getD k 0) ∧ ∀ k, 0 < k → k < n → (k - 1) / 2 = j → 0 < j → h.getD ((j - 1) / 2) 0 ≤ h.getD k 0
def HpDn (h : List Int) (n i : Nat) : Prop := (∀ k, 0 < k → k < n → (k - 1) / 2 ≠ i → h.getD ((k - 1) / 2) 0 ≤ h.getD k 0) ∧ ∀ k, 0 < k → k < n → (k - 1) / 2 = i → 0 < i → h.getD ((i - 1) / 2) 0 ≤ h.getD k 0

theorem HpUp.start {h : List Int} {n : Nat} (H : Hp h n) (x : Int) (hn : h.length = n) : HpUp (h ++ [x]) (n + 1) n := by
  refine ⟨fun k h0 hk hne => ?_, fun k h0 hk he h1 => by omega⟩
  have hk' : k < n := by omega
  have := H k h0 hk'
  simp only [List.getD_eq_getElem?_getD] at this ⊢
  rw [List.getElem?_append_left (by omega), List.getElem?_append_left (by omega)]
  exact this
theorem HpUp.stop {h : List Int} {n j : Nat} (H : HpUp h n j) (hs : j = 0 ∨ h.getD ((j - 1) / 2) 0 ≤ h.getD j 0) : Hp h n := by
  intro k h0 hk
  by_cases hkj : k = j
  · subst hkj
    rcases hs with h1 | h1
    · omega
    · exact h1
  · exact H.1 k h0 hk hkj
theorem HpUp.step {h : List Int} {n j : Nat} (H : HpUp h n j) (h0 : 0 < j) (hj : j < n) (hn : n = h.length) (hl : h.getD j 0 < h.getD ((j - 1) / 2) 0) : HpUp (swp h ((j - 1) / 2) j) n ((j - 1) / 2) := by
  obtain ⟨H1, H2⟩ := H
  have hi : (j - 1) / 2 < j := by omega
  have g := fun k => swp_getD h ((j - 1) / 2) j k (by omega) (by omega)
  refine ⟨fun k hk0 hk hne => ?_, fun k hk0 hk he hi0 => ?_⟩
  · rw [g, g]
    by_cases hkj : k = j
    · subst hkj
      rw [if_pos rfl, if_neg (by omega), if_pos rfl]
      omega
    · rw [if_neg hkj, if_neg hne]
      by_cases hp : (k - 1) / 2 = j
      · rw [if_pos hp]
        exact H2 k hk0 hk hp h0
      · rw [if_neg hp]
        have h3 := H1 k hk0 hk hkj
        by_cases hq : (k - 1) / 2 = (j - 1) / 2
        · rw [if_pos hq, ]
          rw [hq] at h3
          omega
        · rw [if_neg hq]
          exact h3
  · have hpar := H1 ((j - 1) / 2) hi0 (by omega) (by omega)
    rw [g, g, if_neg (by omega), if_neg (by omega)]
    by_cases hkj : k = j
    · rw [if_pos hkj]; exact hpar
    · rw [if_neg hkj, if_neg (by omega)]
      have := H1 k hk0 hk hkj
      rw [he] at this
      omega

theorem HpDn.stop {h : List Int} {n i : Nat} (H : HpDn h n i) (hs : ∀ k, 0 < k → k < n → (k - 1) / 2 = i → h.getD i 0 ≤ h.getD k 0) : Hp h n := by
  intro k h0 hk
  by_cases hp : (k - 1) / 2 = i
  · rw [hp]; exact hs k h0 hk hp
  · exact H.1 k h0 hk hp
theorem HpDn.step {h : List Int} {n i j : Nat} (H : HpDn h n i) (hj0 : 0 < j) (hj : j < n) (hn : n ≤ h.length) (hp : (j - 1) / 2 = i) (hmin : ∀ k, 0 < k → k < n → (k - 1) / 2 = i → h.getD j 0 ≤ h.getD k 0) (hl : h.getD j 0 < h.getD i 0) : HpDn (swp h i j) n j := by
  obtain ⟨H1, H2⟩ := H
  have g := fun k => swp_getD h i j k (by omega) (by omega)
  refine ⟨fun k hk0 hk hne => ?_, fun k hk0 hk he _ => ?_⟩
  · rw [g, g, if_neg hne]
    by_cases hkj : k = j
    · subst hkj
      rw [if_pos rfl, if_pos hp]
      omega
    · rw [if_neg hkj]
      by_cases hq : (k - 1) / 2 = i
      · rw [if_pos hq, if_neg (by omega)]
        exact hmin k hk0 hk hq
      · rw [if_neg hq]
        by_cases hki : k = i
        · rw [if_pos hki]
          have := H2 j hj0 hj hp (by omega)
          rw [hki]
          exact this
        · rw [if_neg hki]
          exact H1 k hk0 hk hq
  · rw [hp, g, g, if_neg (by omega), if_pos rfl, if_neg (by omega), if_neg (by omega)]
    have := H1 k hk0 hk (by omega)
    rw [he] at this
    exact this
theorem Hp.least {h : List Int} {n : Nat} (H : Hp h n) : ∀ k, k < n → h.getD 0 0 ≤ h.getD k 0 := by
  intro k
  induction k using Nat.strongRecOn with
  | _ k ih =>
    intro hk
    by_cases h0 : k = 0
    · subst h0; exact Int.le_refl _
    · have h1 := ih ((k - 1) / 2) (by omega) (by omega)
      have h2 := H k (by omega) hk
      omega
/-- Behind the swap of the first and the last one. -/
theorem HpDn.start {h : List Int} {n : Nat} (H : Hp h (n + 1)) (hn : h.length = n + 1) : HpDn (swp h 0 n) n 0 := by
  refine ⟨fun k h0 hk hne => ?_, fun k h0 hk he hi => absurd hi (by omega)⟩
  have g := fun k => swp_getD h 0 n k (by omega) (by omega)
  rw [g, g, if_neg (by omega), if_neg (by omega), if_neg (by omega), if_neg (by omega)]
  exact H k h0 (by omega)

/-! ## The document's cache -/
structure Tok where
  kind : Int
  rule : Int
  fr : Int
  at' : Int
  to : Int
  mode : Int
  deriving DecidableEq
structure Ent where
  mode : Int
  tok : Tok
  deriving DecidableEq
structure CE where
  at' : Int
  mode : Int
  tok : Tok
  deriving DecidableEq
def Tok.none : Tok := ⟨0, 0, 0, 0, 0, 0⟩
def CE.ent (e : CE) : Ent := ⟨e.mode, e.tok⟩
def plc (w : List CE) : List Int := w.map (·.at')
/-- How many stand ahead of a place. -/
def ahead (w : List CE) (a : Int) : Nat := (w.takeWhile fun e => decide (e.at' < a)).length
def rput (w : List CE) (e : CE) (room : Int) : List CE × Bool :=
  let i := ahead w e.at'
  if (w[i]?).map (·.at') = some e.at' then (w.take i ++ e :: w.drop (i + 1), true) else if room ≤ w.length then (w, false) else (w.take i ++ e :: w.drop i, true)
def rget (w : List CE) (a m : Int) : Option CE := w.find? fun e => decide (e.at' = a) && decide (e.mode = m)
def rsweep (w : List CE) (floor most : Int) : Nat := min most.toNat (ahead w floor)

def mgetE (m : List (Int × Ent)) (k : Int) : Option Ent := (m.find? fun p => decide (p.1 = k)).map (·.2)

structure CRel (w : List CE) (get : Int → Option Ent) (h : List Int) : Prop where
  sorted : (plc w).Pairwise (· < ·)
  perm : h.Perm (plc w)
  heap : Hp h h.length
  get : ∀ p, get p = (w.find? fun e => decide (e.at' = p)).map CE.ent

theorem plc_len (w : List CE) : (plc w).length = w.length := by simp [plc]
theorem ahead_le (w : List CE) (a : Int) : ahead w a ≤ w.length := List.Sublist.length_le (List.takeWhile_sublist _)
theorem take_ahead (w : List CE) (a : Int) : w.take (ahead w a) = w.takeWhile fun e => decide (e.at' < a) := by
  unfold ahead
  have h := List.takeWhile_append_dropWhile (p := fun e : CE => decide (e.at' < a)) (l := w)
  have := congrArg (List.take (w.takeWhile fun e => decide (e.at' < a)).length) h
  rw [List.take_left] at this
  exact this.symm
theorem drop_ahead (w : List CE) (a : Int) : w.drop (ahead w a) = w.dropWhile fun e => decide (e.at' < a) := by
  unfold ahead
  have h := List.takeWhile_append_dropWhile (p := fun e : CE => decide (e.at' < a)) (l := w)
  have := congrArg (List.drop (w.takeWhile fun e => decide (e.at' < a)).length) h
  rw [List.drop_left] at this
  exact this.symm
theorem ahead_lt {w : List CE} {a : Int} {e : CE} (h : e ∈ w.take (ahead w a)) : e.at' < a := by
  rw [take_ahead] at h
  have := List.all_takeWhile (p := fun e : CE => decide (e.at' < a)) (l := w)
  have := List.all_eq_true.1 this e h
  simpa using this
theorem ahead_ge {w : List CE} {a : Int} {e : CE} (hs : (plc w).Pairwise (· < ·)) (h : e ∈ w.drop (ahead w a)) : a ≤ e.at' := by
  induction w with
  | nil => simp [ahead] at h
  | cons x w ih =>
    simp only [plc, List.map_cons, List.pairwise_cons] at hs
    rw [drop_ahead, List.dropWhile_cons] at h
    split at h
    · rw [← drop_ahead] at h
      exact ih hs.2 h
    · rename_i hx
      simp only [decide_eq_true_eq] at hx
      rcases List.mem_cons.1 h with rfl | h
      · omega
      · have := hs.1 e.at' (List.mem_map_of_mem h)
        omega

theorem find_at {w : List CE} {p : Int} : (w.find? fun e => decide (e.at' = p)) = none ↔ p ∉ plc w := by
  rw [List.find?_eq_none]
  constructor
  · intro h hm
    obtain ⟨e, he, rfl⟩ := List.mem_map.1 hm
    exact h e he (by simp)
  · intro h e he hp
    exact h (List.mem_map.2 ⟨e, he, by simpa using hp⟩)
theorem CRel.has {w : List CE} {g : Int → Option Ent} {h : List Int} (H : CRel w g h) (p : Int) : (g p).isSome = true ↔ p ∈ plc w := by
  rw [H.get]
  cases hf : w.find? fun e => decide (e.at' = p) with
  | none => simp [find_at.1 hf]
  | some e =>
    have h1 := List.mem_of_find?_eq_some hf
    have h2 := List.find?_some hf
    simp only [decide_eq_true_eq] at h2
    exact ⟨fun _ => List.mem_map.2 ⟨e, h1, h2⟩, fun _ => rfl⟩
/-- Of places that all differ the element is one. -/
theorem sorted_nodup {w : List CE} (hs : (plc w).Pairwise (· < ·)) : (plc w).Nodup := hs.imp (fun h => by omega)
theorem find_mem {w : List CE} (hs : (plc w).Pairwise (· < ·)) {e : CE} (he : e ∈ w) : (w.find? fun x => decide (x.at' = e.at')) = some e := by
  induction w with
  | nil => simp at he
  | cons x w ih =>
    simp only [plc, List.map_cons, List.pairwise_cons] at hs
    rw [List.find?_cons]
    rcases List.mem_cons.1 he with rfl | he
    · simp
    · have := hs.1 e.at' (List.mem_map_of_mem he)
      rw [show decide (x.at' = e.at') = false from by simp; omega]
      exact ih hs.2 he
/-- The document's Get. -/
theorem CRel.rget {w : List CE} {g : Int → Option Ent} {h : List Int} (H : CRel w g h) (a m : Int) : rget w a m = match g a with
    | some e => if e.mode = m then some ⟨a, e.mode, e.tok⟩ else none
    | none => none := by
  unfold Go.Proofs.YtkdidefghbeabaaGreat.rget
  rw [H.get]
  cases hf : w.find? fun e => decide (e.at' = a) with
  | none =>
    rw [List.find?_eq_none] at hf
    show _ = none
    rw [List.find?_eq_none]
    intro e he
    have := hf e he
    simp only [decide_eq_true_eq] at this
    simp [this]
  | some e =>
    have h1 := List.mem_of_find?_eq_some hf
    have h2 := List.find?_some hf
    simp only [decide_eq_true_eq] at h2
    subst h2
    have hu : ∀ x ∈ w, x.at' = e.at' → x = e := fun x hx hxe => by
      have := find_mem H.sorted hx
      rw [hxe, hf] at this
      exact (Option.some.inj this).symm
    show _ = if e.mode = m then some (⟨e.at', e.mode, e.tok⟩ : CE) else none
    by_cases hm : e.mode = m
    · rw [if_pos hm]
      cases hg : w.find? fun x => decide (x.at' = e.at') && decide (x.mode = m) with
      | none => have := List.find?_eq_none.1 hg e h1; simp [hm] at this
      | some x =>
        have h3 := List.find?_some hg
        simp only [Bool.and_eq_true, decide_eq_true_eq] at h3
        rw [hu x (List.mem_of_find?_eq_some hg) h3.1]
    · rw [if_neg hm, List.find?_eq_none]
      intro x hx hb
      simp only [Bool.and_eq_true, decide_eq_true_eq] at hb
      exact hm (by rw [← hu x hx hb.1]; exact hb.2)

theorem at_ahead {w : List CE} {a : Int} (hs : (plc w).Pairwise (· < ·)) : ((w[ahead w a]?).map (·.at') = some a ↔ a ∈ plc w) := by
  constructor
  · intro h
    obtain ⟨e, he, rfl⟩ := Option.map_eq_some_iff.1 h
    exact List.mem_map_of_mem (List.mem_of_getElem? he)
  · intro h
    obtain ⟨e, he, rfl⟩ := List.mem_map.1 h
    have h0 : e ∈ w.take (ahead w e.at') ++ w.drop (ahead w e.at') := by rw [List.take_append_drop]; exact he
    rcases List.mem_append.1 h0 with h1 | h1
    · have := ahead_lt h1; omega
    · cases hd : w.drop (ahead w e.at') with
      | nil => rw [hd] at h1; simp at h1
      | cons x r =>
        have hx : w[ahead w e.at']? = some x := by
          have := congrArg (·[0]?) hd
          simpa using this
        rw [hx]
        rw [hd] at h1
        have hsub : (plc (w.drop (ahead w e.at'))).Pairwise (· < ·) := by
          unfold plc
          rw [List.map_drop]
          exact hs.sublist (List.drop_sublist _ _)
        rw [hd] at hsub
        simp only [plc, List.map_cons, List.pairwise_cons] at hsub
        have hge := ahead_ge hs (e := x) (a := e.at') (by rw [hd]; simp)
        rcases List.mem_cons.1 h1 with rfl | h1
        · rfl
        · have := hsub.1 e.at' (List.mem_map_of_mem h1)
          omega

theorem find_iff {w : List CE} (hs : (plc w).Pairwise (· < ·)) (p : Int) (v : Ent) : (w.find? fun e => decide (e.at' = p)).map CE.ent = some v ↔ ∃ e ∈ w, e.at' = p ∧ e.ent = v := by
  constructor
  · intro h
    obtain ⟨e, he, rfl⟩ := Option.map_eq_some_iff.1 h
    exact ⟨e, List.mem_of_find?_eq_some he, by simpa using List.find?_some he, rfl⟩
  · rintro ⟨e, he, rfl, rfl⟩
    rw [find_mem hs he]
    rfl
theorem CRel.iff {w : List CE} {g : Int → Option Ent} {h : List Int} (H : CRel w g h) (p : Int) (v : Ent) : g p = some v ↔ ∃ e ∈ w, e.at' = p ∧ e.ent = v := by rw [H.get, find_iff H.sorted]
theorem CRel.of {w : List CE} {g : Int → Option Ent} {h : List Int} (hs : (plc w).Pairwise (· < ·)) (hp : h.Perm (plc w)) (hh : Hp h h.length) (hg : ∀ p v, g p = some v ↔ ∃ e ∈ w, e.at' = p ∧ e.ent = v) : CRel w g h :=
  ⟨hs, hp, hh, fun p => Option.ext fun v => by rw [find_iff hs]; exact hg p v⟩
theorem CRel.empty : CRel [] (fun _ => none) [] := ⟨by simp [plc], by simp [plc], fun k _ h => by simp at h, fun p => rfl⟩
theorem CRel.len {w : List CE} {g : Int → Option Ent} {h : List Int} (H : CRel w g h) : h.length = w.length := by rw [H.perm.length_eq, plc_len]

theorem mem_split {w : List CE} {i : Nat} {x y : CE} (hx : w[i]? = some x) : y ∈ w ↔ y ∈ w.take i ∨ y = x ∨ y ∈ w.drop (i + 1) := by
  have hlt := (List.getElem?_eq_some_iff.1 hx).1
  have hv := (List.getElem?_eq_some_iff.1 hx).2
  conv => lhs; rw [show w = w.take i ++ w[i] :: w.drop (i + 1) from by simp]
  rw [List.mem_append, List.mem_cons, hv]
theorem CRel.replace {w : List CE} {g : Int → Option Ent} {h : List Int} (H : CRel w g h) (e : CE) (ha : (w[ahead w e.at']?).map (·.at') = some e.at') :
    CRel (w.take (ahead w e.at') ++ e :: w.drop (ahead w e.at' + 1)) (fun p => if e.at' = p then some e.ent else g p) h := by
  obtain ⟨x, hx, hxe⟩ := Option.map_eq_some_iff.1 ha
  have hlt := (List.getElem?_eq_some_iff.1 hx).1
  have hv := (List.getElem?_eq_some_iff.1 hx).2
  have hplc : plc (w.take (ahead w e.at') ++ e :: w.drop (ahead w e.at' + 1)) = plc w := by
    have : w = w.take (ahead w e.at') ++ w[ahead w e.at'] :: w.drop (ahead w e.at' + 1) := by simp
    conv => rhs; rw [this]
    simp only [plc, List.map_append, List.map_cons, hv, hxe]
  have hs : (plc (w.take (ahead w e.at') ++ e :: w.drop (ahead w e.at' + 1))).Pairwise (· < ·) := hplc ▸ H.sorted
  refine CRel.of hs (hplc ▸ H.perm) H.heap (fun p v => ?_)
  by_cases hp : e.at' = p
  · subst hp
    rw [if_pos rfl]
    constructor
    · intro h
      exact ⟨e, by simp, rfl, Option.some.inj h⟩
    · rintro ⟨y, hy, hye, rfl⟩
      have h1 := find_mem hs hy
      rw [hye] at h1
      have h2 := find_mem hs (e := e) (by simp)
      rw [h1] at h2
      rw [Option.some.inj h2]
  · rw [if_neg hp, H.iff]
    constructor
    · rintro ⟨y, hy, rfl, rfl⟩
      rcases (mem_split hx).1 hy with h1 | rfl | h1
      · exact ⟨y, by simp [h1], rfl, rfl⟩
      · exact absurd hxe.symm hp
      · exact ⟨y, by simp [h1], rfl, rfl⟩
    · rintro ⟨y, hy, rfl, rfl⟩
      rcases List.mem_append.1 hy with h1 | h1
      · exact ⟨y, List.mem_of_mem_take h1, rfl, rfl⟩
      · rcases List.mem_cons.1 h1 with rfl | h1
        · exact absurd rfl hp
        · exact ⟨y, List.mem_of_mem_drop h1, rfl, rfl⟩
theorem CRel.insert {w : List CE} {g : Int → Option Ent} {h h' : List Int} (H : CRel w g h) (e : CE) (ha : e.at' ∉ plc w) (hp : h'.Perm (h ++ [e.at'])) (hh : Hp h' h'.length) :
    CRel (w.take (ahead w e.at') ++ e :: w.drop (ahead w e.at')) (fun p => if e.at' = p then some e.ent else g p) h' := by
  have hmem : ∀ y, y ∈ w.take (ahead w e.at') ++ e :: w.drop (ahead w e.at') ↔ y = e ∨ y ∈ w := by
    intro y
    conv => rhs; rw [← List.take_append_drop (ahead w e.at') w]
    simp only [List.mem_append, List.mem_cons]
    constructor
    · rintro (h | h | h) <;> simp [h]
    · rintro (h | h | h) <;> simp [h]
  refine CRel.of ?_ ?_ hh (fun p v => ?_)
  · have hs := H.sorted
    rw [← List.take_append_drop (ahead w e.at') w] at hs
    simp only [plc, List.map_append, List.map_cons, List.pairwise_append, List.pairwise_cons] at hs ⊢
    refine ⟨hs.1, ⟨fun y hy => ?_, hs.2.1⟩, fun x hx y hy => ?_⟩
    · obtain ⟨z, hz, rfl⟩ := List.mem_map.1 hy
      have h1 := ahead_ge H.sorted hz
      have h2 : e.at' ≠ z.at' := fun h => ha (h ▸ List.mem_map_of_mem (List.mem_of_mem_drop hz))
      omega
    · obtain ⟨z, hz, rfl⟩ := List.mem_map.1 hx
      rcases List.mem_cons.1 hy with rfl | hy
      · exact ahead_lt hz
      · exact hs.2.2 _ hx _ hy
  · refine hp.trans ?_
    have h1 : (plc (w.take (ahead w e.at') ++ e :: w.drop (ahead w e.at'))).Perm (e.at' :: plc w) := by
      conv => rhs; rw [← List.take_append_drop (ahead w e.at') w]
      simp only [plc, List.map_append, List.map_cons]
      exact List.perm_middle
    exact ((List.Perm.append_right _ H.perm).trans (List.perm_append_comm (l₁ := plc w) (l₂ := [e.at']))).trans h1.symm
  · by_cases hpe : e.at' = p
    · subst hpe
      rw [if_pos rfl]
      constructor
      · intro h
        exact ⟨e, (hmem e).2 (.inl rfl), rfl, Option.some.inj h⟩
      · rintro ⟨y, hy, hye, rfl⟩
        rcases (hmem y).1 hy with rfl | hy
        · rfl
        · exact absurd (hye ▸ List.mem_map_of_mem hy) ha
    · rw [if_neg hpe, H.iff]
      constructor
      · rintro ⟨y, hy, rfl, rfl⟩
        exact ⟨y, (hmem y).2 (.inr hy), rfl, rfl⟩
      · rintro ⟨y, hy, rfl, rfl⟩
        rcases (hmem y).1 hy with rfl | hy
        · exact absurd rfl hpe
        · exact ⟨y, hy, rfl, rfl⟩
theorem CRel.least {x : CE} {w : List CE} {g : Int → Option Ent} {h : List Int} (H : CRel (x :: w) g h) : h.getD 0 0 = x.at' := by
  have hl := H.len
  simp only [List.length_cons] at hl
  have hs := H.sorted
  simp only [plc, List.map_cons, List.pairwise_cons] at hs
  have hmem : ∀ k, k < h.length → h.getD k 0 ∈ h := fun k hk => by simp [List.getD_eq_getElem?_getD, hk]
  have h1 : h.getD 0 0 ∈ plc (x :: w) := H.perm.mem_iff.1 (hmem 0 (by omega))
  have h2 : x.at' ∈ h := H.perm.mem_iff.2 (by simp [plc])
  obtain ⟨k, hk, hkx⟩ := List.mem_iff_getElem.1 h2
  have h3 := H.heap.least k hk
  rw [show h.getD k 0 = x.at' from by simp [List.getD_eq_getElem?_getD, hk, hkx]] at h3
  simp only [plc, List.map_cons] at h1
  rcases List.mem_cons.1 h1 with h1 | h1
  · exact h1
  · have := hs.1 _ h1
    omega
theorem CRel.pop {x : CE} {w : List CE} {g : Int → Option Ent} {h h' : List Int} (H : CRel (x :: w) g h) (hp : (h' ++ [x.at']).Perm h) (hh : Hp h' h'.length) : CRel w (fun p => if x.at' = p then none else g p) h' := by
  have hs := H.sorted
  simp only [plc, List.map_cons, List.pairwise_cons] at hs
  refine CRel.of hs.2 ?_ hh (fun p v => ?_)
  · have h1 := (hp.trans H.perm).trans (show (plc (x :: w)).Perm (plc w ++ [x.at']) from (List.perm_append_comm (l₁ := [x.at']) (l₂ := plc w)))
    exact (List.perm_append_right_iff _).1 h1
  · by_cases hpe : x.at' = p
    · subst hpe
      rw [if_pos rfl]
      refine ⟨fun h => (by cases h), ?_⟩
      rintro ⟨y, hy, hye, _⟩
      have := hs.1 y.at' (List.mem_map_of_mem hy)
      omega
    · rw [if_neg hpe, H.iff]
      constructor
      · rintro ⟨y, hy, rfl, rfl⟩
        rcases List.mem_cons.1 hy with rfl | hy
        · exact absurd rfl hpe
        · exact ⟨y, hy, rfl, rfl⟩
      · rintro ⟨y, hy, rfl, rfl⟩
        exact ⟨y, by simp [hy], rfl, rfl⟩
theorem rsweep_le (w : List CE) (f m : Int) : rsweep w f m ≤ w.length := Nat.le_trans (Nat.min_le_right _ _) (ahead_le _ _)
theorem rsweep_zero {w : List CE} {f m : Int} (h : m ≤ 0) : rsweep w f m = 0 := by unfold rsweep; omega
theorem rsweep_nil (f m : Int) : rsweep [] f m = 0 := by simp [rsweep, ahead]
theorem rsweep_cons (x : CE) (w : List CE) (f m : Int) (hm : 0 < m) : rsweep (x :: w) f m = if x.at' < f then rsweep w f (m - 1) + 1 else 0 := by
  unfold rsweep ahead
  rw [List.takeWhile_cons]
  by_cases h : x.at' < f
  · simp only [h, decide_true, if_true, List.length_cons]; omega
  · simp only [h, decide_false, Bool.false_eq_true, if_false, List.length_nil]; omega
end Go.Proofs.YtkdidefghbeabaaGreat
namespace Go.Proofs.YtkdidefghbeabaaGreat
open Go Go.RowKit
set_option maxRecDepth 10000
set_option linter.unusedSimpArgs false
set_option linter.unusedVariables false

instance : Meth Tryz.prog 141 "Len" 168 false := ⟨by kernel_rfl⟩
instance : Meth Tryz.prog 141 "Less" 169 false := ⟨by kernel_rfl⟩
instance : Meth Tryz.prog 141 "Swap" 172 false := ⟨by kernel_rfl⟩
instance : Meth Tryz.prog 141 "Push" 171 true := ⟨by kernel_rfl⟩
instance : Meth Tryz.prog 141 "Pop" 170 true := ⟨by kernel_rfl⟩
instance : Conc Tryz.prog 141 := ⟨by kernel_rfl⟩
instance : Conc Tryz.prog 3 := ⟨by kernel_rfl⟩

def encI (x : Int) : List Value := [.int .i64 x]
theorem ints_flat (os : List Int) : (os.map encI).flatten = os.map (Value.int .i64 ·) := by
  induction os with
  | nil => rfl
  | cons x xs ih => rw [List.map_cons, List.flatten_cons, ih]; rfl
theorem ints_get {cur : List Value} {os : List Int} (ht : cur.take (os.length * 1) = (os.map encI).flatten) (q : Nat) (h : q < os.length) : cur[q]? = some (.int .i64 (os.getD q 0)) := by
  have e := congrArg (·[q]?) ht
  simp only [ints_flat, Nat.mul_one, List.getElem?_take, if_pos h, List.getElem?_map, List.getElem?_eq_getElem h] at e
  simp only [List.getD_eq_getElem?_getD, List.getElem?_eq_getElem h, Option.getD_some]
  exact e
theorem ints_set {cur : List Value} {os : List Int} (ht : cur.take (os.length * 1) = (os.map encI).flatten) (q : Nat) (x : Int) : (cur.set q (.int .i64 x)).take ((os.set q x).length * 1) = ((os.set q x).map encI).flatten := by
  rw [ints_flat] at ht ⊢
  rw [List.length_set, List.take_set, ht, List.map_set]
theorem ints_own {w0 w : World} {M : List Nat} {Fs : List Frag} {a : Option Addr} {cap : Nat} {xs : List Int} {f : Frag} (h : Own 3 1 a xs.length cap (xs.map encI).flatten f) (hg : Goes w0 M (f :: Fs) w) (hn : xs.length ≤ 1000000) : Sl w a cap 1 (xs.map encI) :=
  h.sl hg (by simp [encI]) (by simp) (by omega)
theorem ints_cell {w : World} {a : Option Addr} {cap : Nat} {xs : List Int} (h : Sl w a cap 1 (xs.map encI)) (i : Nat) (hi : i < xs.length) : ∃ b k, a = some ⟨b, k, none⟩ ∧ w.cell? ⟨b, k + i, none⟩ = some (.int .i64 (xs.getD i 0)) := by
  obtain ⟨b, k, e, _, hr⟩ := h.at (i := i) (r := encI xs[i]) (by simp [hi])
  refine ⟨b, k, e, ?_⟩
  have := hr 0 _ rfl
  rw [add_lit, Nat.mul_one] at this
  rw [show xs.getD i 0 = xs[i] from by simp [List.getD_eq_getElem?_getD, hi]]
  exact this

theorem Len_spec (w : World) (a : Option Addr) (n cap : Nat) : Calls Tryz.prog 168 #[.slice a n cap] w fun e w' => e = .returned (.int .i64 n) ∧ Goes w [] [] w' := by
  have hg := Goes.refl w
  refine enter Tryz.func168 rfl (by simp only [Tryz.ntmps168, List.length_cons, List.length_nil, Nat.reduceAdd, Nat.reduceSub, List.replicate_succ, List.replicate_zero, List.cons_append, List.nil_append]; exact rfl) ?_
  repeat' (first | refine zN ?_ | (refine WC.quietG hg ?_; clear hg) | ((with_reducible refine WQ.nilG ?_); intro w hg) | (refine zB ?_; clear hg; intro b w hg; refine WO.fr ?_) | (refine zW ?_; clear hg; intro w hg; refine WO.fr ?_) | (refine op_pureB hg ?_; clear hg; intro w hg c hc; cases c <;> refine WO.fr ?_))
  exact ret1 rfl ⟨rfl, hg.drop⟩

set_option maxHeartbeats 1000000 in
theorem Less_spec (w0 : World) (a : Option Addr) (cap : Nat) (h : List Int) (i j : Nat) (hi : i < h.length) (hj : j < h.length) (hS : Sl w0 a cap 1 (h.map encI)) :
    Calls Tryz.prog 169 #[.slice a h.length cap, .int .i64 i, .int .i64 j] w0 fun e w' => e = .returned (.bool (decide (h.getD i 0 < h.getD j 0))) ∧ Goes w0 [] [] w' := by
  have hg := Goes.refl w0
  obtain ⟨b1, k1, rfl, h1⟩ := ints_cell hS i hi
  obtain ⟨b2, k2, he, h2⟩ := ints_cell hS j hj
  simp only [Option.some.injEq, Addr.mk.injEq, and_true] at he
  obtain ⟨rfl, rfl⟩ := he
  have c1 : ∀ {w Fs}, Goes w0 [] Fs w → w.cell? ⟨b1, k1 + i, none⟩ = some (.int .i64 (h.getD i 0)) := fun g => g.cellOld0 h1
  have c2 : ∀ {w Fs}, Goes w0 [] Fs w → w.cell? ⟨b1, k1 + j, none⟩ = some (.int .i64 (h.getD j 0)) := fun g => g.cellOld0 h2
  by_cases hlt : h.getD i 0 < h.getD j 0
  · rw [decide_eq_true hlt]
    refine enter Tryz.func169 rfl (by simp only [Tryz.ntmps169, List.length_cons, List.length_nil, Nat.reduceAdd, Nat.reduceSub, List.replicate_succ, List.replicate_zero, List.cons_append, List.nil_append]; exact rfl) ?_
    repeat' (first | refine zN ?_ | (refine WC.quietG hg ?_; clear hg) | ((with_reducible refine WQ.nilG ?_); intro w hg) | (refine zB ?_; clear hg; intro b w hg; refine WO.fr ?_) | (refine zW ?_; clear hg; intro w hg; refine WO.fr ?_) | (refine op_pureB hg ?_; clear hg; intro w hg c hc; cases c <;> refine WO.fr ?_))
    exact ret1 rfl ⟨rfl, hg.drop⟩
  · rw [decide_eq_false hlt]
    refine enter Tryz.func169 rfl (by simp only [Tryz.ntmps169, List.length_cons, List.length_nil, Nat.reduceAdd, Nat.reduceSub, List.replicate_succ, List.replicate_zero, List.cons_append, List.nil_append]; exact rfl) ?_
    repeat' (first | refine zN ?_ | (refine WC.quietG hg ?_; clear hg) | ((with_reducible refine WQ.nilG ?_); intro w hg) | (refine zB ?_; clear hg; intro b w hg; refine WO.fr ?_) | (refine zW ?_; clear hg; intro w hg; refine WO.fr ?_) | (refine op_pureB hg ?_; clear hg; intro w hg c hc; cases c <;> refine WO.fr ?_))
    exact ret1 rfl ⟨rfl, hg.drop⟩

set_option maxHeartbeats 1000000 in
theorem Swap_spec {a : Option Addr} {cap : Nat} {h : List Int} {f : Frag} {w0 : World} (i j : Nat) (hi : i < h.length) (hj : j < h.length) (hO : Owns w0 f) (hW : Own 3 1 a h.length cap (h.map encI).flatten f) :
    Calls Tryz.prog 172 #[.slice a h.length cap, .int .i64 i, .int .i64 j] w0 fun e w' => ∃ f', (∃ v, e = .returned v) ∧ Own 3 1 a (swp h i j).length cap ((swp h i j).map encI).flatten f' ∧ Goes w0 (keys f) [f'] w' := by
  obtain ⟨g, cur, rfl, rfl, h1, h2, h3, htk⟩ := hW.inv (by omega)
  have hg := hO.goes
  have ki := ints_get htk i hi
  have kj := ints_get htk j hj
  have hlc : h.length ≤ cur.length := by omega
  have s1 : ∀ {w : World}, w.heap[g]? = some (.cells cur.toArray 3 (0, 0)) → w.cell? ⟨g, i, none⟩ = some (.int .i64 (h.getD i 0)) := fun h => heap_cell h ki
  have s2 : ∀ {w : World}, w.heap[g]? = some (.cells cur.toArray 3 (0, 0)) → w.cell? ⟨g, j, none⟩ = some (.int .i64 (h.getD j 0)) := fun h => heap_cell h kj
  refine enter Tryz.func172 rfl (by simp only [Tryz.ntmps172, List.length_cons, List.length_nil, Nat.reduceAdd, Nat.reduceSub, List.replicate_succ, List.replicate_zero, List.cons_append, List.nil_append]; exact rfl) ?_
  refine WC.drawn (fun w => w.heap[g]? = some (.cells cur.toArray 3 (0, 0))) [2, 3, 12, 13, 14, 15] hg ?_
  clear hg
  intro w hg
  have hS : (fun w => w.heap[g]? = some (.cells cur.toArray 3 (0, 0))) w := hg.own (g, _) (by simp)
  refine WA.passM 0 hS ?_
  refine WA.passM 1 hS ?_
  refine WA.passL 2 ?_
  refine WA.passL 3 ?_
  refine WA.passM 4 hS ?_
  refine WA.passM 5 hS ?_
  refine WA.passM 6 hS ?_
  refine WA.passM 8 hS ?_
  refine WA.passM 9 hS ?_
  refine WA.passM 10 hS ?_
  refine WA.passM 7 hS ?_
  refine WA.passM 11 hS ?_
  refine WA.passL 12 ?_
  refine WA.only 13 ?_
  refine op_store hg ?_ (hk := by omega)
  clear hg hS
  intro w hg
  refine WO.fr ?_
  refine WO.nilL ?_
  refine WA.passL 14 ?_
  refine WA.only 15 ?_
  refine op_store hg ?_ (hk := by rw [List.length_set]; omega)
  clear hg
  intro w hg
  refine WO.fr ?_
  refine WO.nilL ?_
  refine WA.nil ?_
  refine end0 rfl ⟨_, ⟨_, rfl⟩, ?_, hg⟩
  have htk2 := ints_set (ints_set htk i (h.getD j 0)) j (h.getD i 0)
  refine .row (by rw [swp_len]; exact h1) h2 (by simpa using h3) htk2

theorem Goes.callF {w0 w w' : World} {M : List Nat} {h h' : Frag} {Fs : List Frag} (hg : Goes w0 M (h :: Fs) w) (hc : Goes w (keys h) [h'] w') : Goes w0 M (h' :: Fs) w' := hg.call1 hc

/-! ## The heap as it lies -/
def HeapF (ph : Nat) (h : List Int) (f : Frag) : Prop := ∃ ah ch fh, f = [(ph, .cells [.slice ah h.length ch].toArray 142 (0, 0))] ++ fh ∧ Own 3 1 ah h.length ch (h.map encI).flatten fh

set_option maxHeartbeats 2000000 in
theorem up_spec {ph : Nat} {h : List Int} {f : Frag} {w0 : World} (j0 : Nat) (hO : Owns w0 f) (hF : HeapF ph h f) (hU : HpUp h h.length j0) (hj : j0 < h.length) (hn : h.length ≤ 1000000) :
    Calls Tryz.prog 143 #[.iface 141 (.pointer (some ⟨ph, 0, none⟩)), .int .i64 j0] w0 fun e w' => ∃ h' f', (∃ v, e = .returned v) ∧ HeapF ph h' f' ∧ h'.Perm h ∧ Hp h' h'.length ∧ Goes w0 (keys f) [f'] w' := by
  have hg := hO.goes
  refine enter Tryz.func143 rfl (by simp only [Tryz.ntmps143, List.length_cons, List.length_nil, Nat.reduceAdd, Nat.reduceSub, List.replicate_succ, List.replicate_zero, List.cons_append, List.nil_append]; exact rfl) ?_
  repeat' (first | refine zN ?_ | (refine WC.quietG hg ?_; clear hg) | ((with_reducible refine WQ.nilG ?_); intro w hg) | (refine zB ?_; clear hg; intro b w hg; refine WO.fr ?_) | (refine zW ?_; clear hg; intro w hg; refine WO.fr ?_) | (refine op_pureB hg ?_; clear hg; intro w hg c hc; cases c <;> refine WO.fr ?_))
  refine WC.loopS [1, 4, 5, 6, 7, 8, 9, 10, 11, 12, 13, 14, 15, 16, 17, 18, 19, 20, 21, 22] (fun xs d w => ∃ (j : Nat) (h' : List Int) (f' : Frag), d = [] ∧ (gt xs 0) = .int .i64 j ∧ j < h'.length ∧ HeapF ph h' f' ∧ h'.Perm h ∧ HpUp h' h'.length j ∧ Goes w0 (keys f) [f'] w) (fun xs _ _ => (intOf (gt xs 0)).toNat) ?_ ?_
  · exact ⟨j0, h, f, rfl, rfl, hj, hF, List.Perm.refl _, hU, hg⟩
  clear hg hF hU hj
  intro xs d w hlen hI K hK
  replace hlen := len_cons hlen
  obtain ⟨x1, xs, rfl, hlen⟩ := hlen
  replace hlen := len_cons hlen
  obtain ⟨x4, xs, rfl, hlen⟩ := hlen
  replace hlen := len_cons hlen
  obtain ⟨x5, xs, rfl, hlen⟩ := hlen
  replace hlen := len_cons hlen
  obtain ⟨x6, xs, rfl, hlen⟩ := hlen
  replace hlen := len_cons hlen
  obtain ⟨x7, xs, rfl, hlen⟩ := hlen
  replace hlen := len_cons hlen
  obtain ⟨x8, xs, rfl, hlen⟩ := hlen
  replace hlen := len_cons hlen
  obtain ⟨x9, xs, rfl, hlen⟩ := hlen
  replace hlen := len_cons hlen
  obtain ⟨x10, xs, rfl, hlen⟩ := hlen
  replace hlen := len_cons hlen
  obtain ⟨x11, xs, rfl, hlen⟩ := hlen
  replace hlen := len_cons hlen
  obtain ⟨x12, xs, rfl, hlen⟩ := hlen
  replace hlen := len_cons hlen
  obtain ⟨x13, xs, rfl, hlen⟩ := hlen
  replace hlen := len_cons hlen
  obtain ⟨x14, xs, rfl, hlen⟩ := hlen
  replace hlen := len_cons hlen
  obtain ⟨x15, xs, rfl, hlen⟩ := hlen
  replace hlen := len_cons hlen
  obtain ⟨x16, xs, rfl, hlen⟩ := hlen
  replace hlen := len_cons hlen
  obtain ⟨x17, xs, rfl, hlen⟩ := hlen
  replace hlen := len_cons hlen
  obtain ⟨x18, xs, rfl, hlen⟩ := hlen
  replace hlen := len_cons hlen
  obtain ⟨x19, xs, rfl, hlen⟩ := hlen
  replace hlen := len_cons hlen
  obtain ⟨x20, xs, rfl, hlen⟩ := hlen
  replace hlen := len_cons hlen
  obtain ⟨x21, xs, rfl, hlen⟩ := hlen
  replace hlen := len_cons hlen
  obtain ⟨x22, xs, rfl, hlen⟩ := hlen
  replace hlen := len_nil hlen
  subst hlen
  refine WC.frame (by simp only [setAll, List.set_cons_succ, List.set_cons_zero]; exact rfl) ?_
  try simp only [gt] at hI
  obtain ⟨j, h', f', rfl, rfl, hj, hF, hp, hU, hg⟩ := hI
  have hpl := hp.length_eq
  by_cases h0 : j = 0
  · subst h0
    repeat' (first | refine zN ?_ | (refine WC.quietG hg ?_; clear hg) | ((with_reducible refine WQ.nilG ?_); intro w hg) | (refine zB ?_; clear hg; intro b w hg; refine WO.fr ?_) | (refine zW ?_; clear hg; intro w hg; refine WO.fr ?_) | (refine op_pureB hg ?_; clear hg; intro w hg c hc; cases c <;> refine WO.fr ?_))
    refine WO.x ?_ (hx := x_quoT (hb := by decide) (hr := by decide))
    rw [show (((0 : Nat) : Int) - 1).tdiv 2 = 0 from rfl]
    repeat' (first | refine zN ?_ | (refine WC.quietG hg ?_; clear hg) | ((with_reducible refine WQ.nilG ?_); intro w hg) | (refine zB ?_; clear hg; intro b w hg; refine WO.fr ?_) | (refine zW ?_; clear hg; intro w hg; refine WO.fr ?_) | (refine op_pureB hg ?_; clear hg; intro w hg c hc; cases c <;> refine WO.fr ?_))
    exact end0 rfl ⟨h', f', ⟨_, rfl⟩, hF, hp, hU.stop (.inl rfl), hg⟩
  · repeat' (first | refine zN ?_ | (refine WC.quietG hg ?_; clear hg) | ((with_reducible refine WQ.nilG ?_); intro w hg) | (refine zB ?_; clear hg; intro b w hg; refine WO.fr ?_) | (refine zW ?_; clear hg; intro w hg; refine WO.fr ?_) | (refine op_pureB hg ?_; clear hg; intro w hg c hc; cases c <;> refine WO.fr ?_))
    rw [show ((j : Int) - 1) / 2 = (((j - 1) / 2 : Nat) : Int) from by omega]
    have hi : (j - 1) / 2 < j := by omega
    generalize hie : (j - 1) / 2 = i at hi
    repeat' (first | refine zN ?_ | (refine WC.quietG hg ?_; clear hg) | ((with_reducible refine WQ.nilG ?_); intro w hg) | (refine zB ?_; clear hg; intro b w hg; refine WO.fr ?_) | (refine zW ?_; clear hg; intro w hg; refine WO.fr ?_) | (refine op_pureB hg ?_; clear hg; intro w hg c hc; cases c <;> refine WO.fr ?_))
    obtain ⟨ah, ch, fh, rfl, hW⟩ := hF
    replace hg := hg.perm (Fs' := [[(ph, .cells [.slice ah h'.length ch].toArray 142 (0, 0))], fh]) (by simp)
    refine op_invokeV (heap_cell (hg.own (ph, .cells [.slice ah h'.length ch].toArray 142 (0, 0)) (by simp)) rfl) (Less_spec w ah ch h' j i (by omega) (by omega) (ints_own hW (hg.front 1) (by omega))) ?_
    rintro _ w2 ⟨rfl, hg2⟩
    replace hg := hg.call00 hg2
    clear hg2
    refine ⟨_, rfl, ?_⟩
    refine WO.fr ?_
    by_cases hlt : h'.getD j 0 < h'.getD i 0
    · rw [decide_eq_true hlt]
      repeat' (first | refine zN ?_ | (refine WC.quietG hg ?_; clear hg) | ((with_reducible refine WQ.nilG ?_); intro w hg) | (refine zB ?_; clear hg; intro b w hg; refine WO.fr ?_) | (refine zW ?_; clear hg; intro w hg; refine WO.fr ?_) | (refine op_pureB hg ?_; clear hg; intro w hg c hc; cases c <;> refine WO.fr ?_))
      refine op_invokeV (heap_cell (hg.own (ph, .cells [.slice ah h'.length ch].toArray 142 (0, 0)) (by simp)) rfl) (Swap_spec i j (by omega) (by omega) (hg.front 1).owns1 hW) ?_
      rintro _ w2 ⟨f2, ⟨v, rfl⟩, hW2, hg2⟩
      replace hg := (hg.front 1).callF hg2
      clear hg2
      refine ⟨_, rfl, ?_⟩
      refine WO.fr ?_
      have hst := hU.step (by omega) hj rfl (by rw [hie]; exact hlt)
      rw [hie] at hst
      have hl2 := swp_len h' i j
      have hp2 := swp_perm h' i j (by omega) (by omega)
      repeat' (first | refine zN ?_ | (refine WC.quietG hg ?_; clear hg) | ((with_reducible refine WQ.nilG ?_); intro w hg) | (refine zB ?_; clear hg; intro b w hg; refine WO.fr ?_) | (refine zW ?_; clear hg; intro w hg; refine WO.fr ?_) | (refine op_pureB hg ?_; clear hg; intro w hg c hc; cases c <;> refine WO.fr ?_))
      with_reducible refine QX.norm ?_
      refine hK _ _ _ ?_ ?_ ?_
      · simp only [setAll, List.map_cons, List.map_nil, gt, List.set_cons_succ, List.set_cons_zero]
      all_goals try simp only [List.map_cons, List.map_nil, gt, intOf]
      · refine ⟨i, swp h' i j, _, trivial, rfl, by omega, ⟨ah, ch, f2, rfl, hW2⟩, hp2.trans hp, by rw [hl2]; exact hst, ?_⟩
        rw [hl2]
        exact hg.swap.perm (by simp)
      · omega
    · rw [decide_eq_false hlt]
      repeat' (first | refine zN ?_ | (refine WC.quietG hg ?_; clear hg) | ((with_reducible refine WQ.nilG ?_); intro w hg) | (refine zB ?_; clear hg; intro b w hg; refine WO.fr ?_) | (refine zW ?_; clear hg; intro w hg; refine WO.fr ?_) | (refine op_pureB hg ?_; clear hg; intro w hg c hc; cases c <;> refine WO.fr ?_))
      exact end0 rfl ⟨h', _, ⟨_, rfl⟩, ⟨ah, ch, fh, rfl, hW⟩, hp, hU.stop (.inr (by rw [hie]; omega)), hg.perm (by simp)⟩
end Go.Proofs.YtkdidefghbeabaaGreat
namespace Go.Proofs.YtkdidefghbeabaaGreat
open Go Go.RowKit
set_option linter.unusedSimpArgs false
set_option linter.unusedVariables false

def str (l : List UInt8) : ByteArray := ⟨l.toArray⟩
theorem str_size (l : List UInt8) : (str l).size = l.length := by simp [str, ByteArray.size]
theorem str_list (l : List UInt8) : (str l).data.toList = l := rfl
theorem str_ext {a b : ByteArray} (h : a.data.toList = b.data.toList) : a = b := by
  obtain ⟨a⟩ := a; obtain ⟨b⟩ := b
  congr 1
  exact Array.ext' h
theorem str_take (l : List UInt8) (k : Nat) : (str l).extract 0 k = str (l.take k) := by
  apply str_ext
  rw [str_list]
  simp [ByteArray.data_extract, str]
theorem str_drop (l : List UInt8) (k : Nat) : (str l).extract k l.length = str (l.drop k) := by
  apply str_ext
  rw [str_list]
  simp only [ByteArray.data_extract, str, Array.toList_extract, List.extract_eq_take_drop]
  exact List.take_of_length_le (by simp)
theorem str_inj {a b : List UInt8} (h : str a = str b) : a = b := congrArg (fun s : ByteArray => s.data.toList) h
theorem str_beq (a b : List UInt8) : (str a == str b) = decide (a = b) := by
  rw [Bool.eq_iff_iff, MapKept.bytes_beq, decide_eq_true_iff]
  exact ⟨str_inj, fun h => h ▸ rfl⟩

def bcells (l : List UInt8) : List Value := l.map fun b => Value.int .u8 (b.toNat : Int)
theorem bcells_len (l : List UInt8) : (bcells l).length = l.length := by simp [bcells]
theorem bcells_get {l : List UInt8} {i : Nat} {b : UInt8} (h : l[i]? = some b) : (bcells l)[i]? = some (.int .u8 (b.toNat : Int)) := by simp [bcells, h]

section
variable {P : Program} {r : Option Nat} {Q : Exit → Act → World → Prop} {l l' : List Value} {d : List Deferred} {w w' w0 : World} {M : List Nat} {Fs Fs' : List Frag}
variable {ops : Array Oper} {os : List Oper} {dst : Option Tmp} {ty : TypeId} {pos : String} {af : Array Edge} {v : Value}

/-- A string's beginning, its end. -/
theorem op_strH {t : TypeId} {x hi : Operand} {s : List UInt8} {k : IntKind} {j : Nat} [H : Und P t .string] (h : WO P r ops Q os (put l dst (.string (str (s.take j)))) d w) (hx : ev l x = .string (str s) := by first | (simp only [ev, gt, put, List.set_cons_succ, List.set_cons_zero, Nat.zero_add, Nat.add_zero, Nat.mul_one, Nat.reduceAdd, Nat.reduceMul, Int.toNat_natCast, Int.reduceToNat, List.map_cons, List.map_nil, List.cons_append, List.nil_append]; exact rfl) | simp only [ev, gt, put, List.set_cons_succ, List.set_cons_zero, Nat.zero_add, Nat.add_zero, Nat.mul_one, Nat.reduceAdd, Nat.reduceMul, Int.toNat_natCast, Int.reduceToNat, List.map_cons, List.map_nil, List.cons_append, List.nil_append]) (hh : ev l hi = .int k j := by first | (simp only [ev, gt, put, List.set_cons_succ, List.set_cons_zero, Nat.zero_add, Nat.add_zero, Nat.mul_one, Nat.reduceAdd, Nat.reduceMul, Int.toNat_natCast, Int.reduceToNat, List.map_cons, List.map_nil, List.cons_append, List.nil_append]; exact rfl) | simp only [ev, gt, put, List.set_cons_succ, List.set_cons_zero, Nat.zero_add, Nat.add_zero, Nat.mul_one, Nat.reduceAdd, Nat.reduceMul, Int.toNat_natCast, Int.reduceToNat, List.map_cons, List.map_nil, List.cons_append, List.nil_append]) (h0 : j ≤ s.length := by omega) :
    WO P r ops Q (⟨dst, .slice t x none (some hi) none, ty, pos, af, none⟩ :: os) l d w := by
  refine WO.val (by simp) ?_ rfl h
  have := run_slice_string_h (P := P) w t (str s) H.out k j (by omega) (by rw [str_size]; omega)
  rw [Int.toNat_natCast, str_take] at this
  simp [execOp, St_eval, hx, hh, run_sliceAt_string _ _ _ _ _ _ H.out, this]
theorem op_strL {t : TypeId} {x lo : Operand} {s : List UInt8} {k : IntKind} {j : Nat} [H : Und P t .string] (h : WO P r ops Q os (put l dst (.string (str (s.drop j)))) d w) (hx : ev l x = .string (str s) := by first | (simp only [ev, gt, put, List.set_cons_succ, List.set_cons_zero, Nat.zero_add, Nat.add_zero, Nat.mul_one, Nat.reduceAdd, Nat.reduceMul, Int.toNat_natCast, Int.reduceToNat, List.map_cons, List.map_nil, List.cons_append, List.nil_append]; exact rfl) | simp only [ev, gt, put, List.set_cons_succ, List.set_cons_zero, Nat.zero_add, Nat.add_zero, Nat.mul_one, Nat.reduceAdd, Nat.reduceMul, Int.toNat_natCast, Int.reduceToNat, List.map_cons, List.map_nil, List.cons_append, List.nil_append]) (hl : ev l lo = .int k j := by first | (simp only [ev, gt, put, List.set_cons_succ, List.set_cons_zero, Nat.zero_add, Nat.add_zero, Nat.mul_one, Nat.reduceAdd, Nat.reduceMul, Int.toNat_natCast, Int.reduceToNat, List.map_cons, List.map_nil, List.cons_append, List.nil_append]; exact rfl) | simp only [ev, gt, put, List.set_cons_succ, List.set_cons_zero, Nat.zero_add, Nat.add_zero, Nat.mul_one, Nat.reduceAdd, Nat.reduceMul, Int.toNat_natCast, Int.reduceToNat, List.map_cons, List.map_nil, List.cons_append, List.nil_append]) (h0 : j ≤ s.length := by omega) :
    WO P r ops Q (⟨dst, .slice t x (some lo) none none, ty, pos, af, none⟩ :: os) l d w := by
  refine WO.val (by simp) ?_ rfl h
  have := run_slice_string_l (P := P) w t (str s) H.out k j (by omega) (by rw [str_size]; omega)
  rw [Int.toNat_natCast, str_size, str_drop] at this
  simp [execOp, St_eval, hx, hl, run_sliceAt_string _ _ _ _ _ _ H.out, this]

theorem made_one (z : Value) (n : Nat) : madeCells #[z] n = (List.replicate n z).toArray := by
  unfold madeCells
  apply Array.ext'
  simp
  apply List.ext_getElem?
  intro i
  simp only [List.getElem?_map, List.getElem?_replicate]
  rcases Nat.lt_or_ge i n with h | h
  · simp [h, Nat.mod_one]
  · simp [h, Nat.not_lt.2 h]
theorem op_make {t e : TypeId} {x y : Operand} {k1 k2 : IntKind} {m c : Nat} {z : Value} [H : Und P t (.slice e)] [S : Size P e 1] [B : Bytes P e 1] [Z : Zero P e [z]] (hg : Goes w0 M Fs w)
    (h : ∀ b w', Goes w0 M ([(b, .cells (List.replicate c z).toArray e (0, 0))] :: Fs) w' → WO P r ops Q os (put l dst (.slice (some ⟨b, 0, none⟩) m c)) d w')
    (hx : ev l x = .int k1 m := by first | (simp only [ev, gt, put, List.set_cons_succ, List.set_cons_zero, Nat.zero_add, Nat.add_zero, Nat.mul_one, Nat.reduceAdd, Nat.reduceMul, Int.toNat_natCast, Int.reduceToNat, List.map_cons, List.map_nil, List.cons_append, List.nil_append]; exact rfl) | simp only [ev, gt, put, List.set_cons_succ, List.set_cons_zero, Nat.zero_add, Nat.add_zero, Nat.mul_one, Nat.reduceAdd, Nat.reduceMul, Int.toNat_natCast, Int.reduceToNat, List.map_cons, List.map_nil, List.cons_append, List.nil_append]) (hy : ev l y = .int k2 c := by first | (simp only [ev, gt, put, List.set_cons_succ, List.set_cons_zero, Nat.zero_add, Nat.add_zero, Nat.mul_one, Nat.reduceAdd, Nat.reduceMul, Int.toNat_natCast, Int.reduceToNat, List.map_cons, List.map_nil, List.cons_append, List.nil_append]; exact rfl) | simp only [ev, gt, put, List.set_cons_succ, List.set_cons_zero, Nat.zero_add, Nat.add_zero, Nat.mul_one, Nat.reduceAdd, Nat.reduceMul, Int.toNat_natCast, Int.reduceToNat, List.map_cons, List.map_nil, List.cons_append, List.nil_append]) (hmc : m ≤ c := by omega) (hc : c ≤ 16777216 := by omega) :
    WO P r ops Q (⟨dst, .makeSlice t x y, ty, pos, af, none⟩ :: os) l d w := by
  have hzo := Z.out
  have hso := S.out
  have hbo := B.out
  cases hi : P.info? e with
  | none => simp [hi] at hzo
  | some ie =>
    simp [hi] at hzo hso hbo
    obtain ⟨zz, hz, hzc⟩ := hzo
    have hcs : zz.cells = #[z] := by apply Array.ext'; rw [hzc]
    have hrun := run_makeSlice (P := P) w t e ie zz H.out hi hz k1 k2 m c (by omega) (by omega) (by rw [hso]; omega) (by rw [hbo]; omega) (by omega)
    rw [hso, hcs, Nat.mul_one, made_one, Int.toNat_natCast, Int.toNat_natCast] at hrun
    refine WO.val (by simp) ?_ rfl (h w.heap.size _ (hg.alloc _))
    simp [execOp, St_eval, hx, hy, hrun]

/-- copy out of a string, into a row that is owned. -/
theorem op_copyStr {t tx e : TypeId} {x y : Operand} {g o dl dc : Nat} {bl : List Value} {s : List UInt8} [H : Und P t (.slice e)] [S : Size P e 1] (hg : Goes w0 M Fs w)
    (h : ∀ w', Goes w0 M Fs' w' → WO P r ops Q os (put l dst (.int .i64 (min s.length dl : Nat))) d w')
    (hT : Turn g (.cells bl.toArray e (0, 0)) (.cells (bl.take o ++ bcells (s.take (min s.length dl)) ++ bl.drop (o + min s.length dl)).toArray e (0, 0)) Fs Fs' := by repeat (first | with_reducible exact Turn.here | with_reducible apply Turn.more | with_reducible apply Turn.next))
    (hfit : o + dl ≤ bl.length := by omega) (hx : ev l x = .slice (some ⟨g, o, none⟩) dl dc := by first | (simp only [ev, gt, put, List.set_cons_succ, List.set_cons_zero, Nat.zero_add, Nat.add_zero, Nat.mul_one, Nat.reduceAdd, Nat.reduceMul, Int.toNat_natCast, Int.reduceToNat, List.map_cons, List.map_nil, List.cons_append, List.nil_append]; exact rfl) | simp only [ev, gt, put, List.set_cons_succ, List.set_cons_zero, Nat.zero_add, Nat.add_zero, Nat.mul_one, Nat.reduceAdd, Nat.reduceMul, Int.toNat_natCast, Int.reduceToNat, List.map_cons, List.map_nil, List.cons_append, List.nil_append]) (hy : ev l y = .string (str s) := by first | (simp only [ev, gt, put, List.set_cons_succ, List.set_cons_zero, Nat.zero_add, Nat.add_zero, Nat.mul_one, Nat.reduceAdd, Nat.reduceMul, Int.toNat_natCast, Int.reduceToNat, List.map_cons, List.map_nil, List.cons_append, List.nil_append]; exact rfl) | simp only [ev, gt, put, List.set_cons_succ, List.set_cons_zero, Nat.zero_add, Nat.add_zero, Nat.mul_one, Nat.reduceAdd, Nat.reduceMul, Int.toNat_natCast, Int.reduceToNat, List.map_cons, List.map_nil, List.cons_append, List.nil_append]) :
    WO P r ops Q (⟨dst, .call { callee := .builtin .copy, args := #[x, y], argTypes := #[t, tx] }, ty, pos, af, none⟩ :: os) l d w := by
  have hb := hT.own hg
  have hso := S.out
  have hlen : (bcells (s.take (min s.length dl))).length = min s.length dl := by rw [bcells_len, List.length_take]; omega
  have hst := run_storeCells_at (P := P) g o e (bcells (s.take (min s.length dl))) 0 bl.toArray w hb (by rw [hlen]; simp; omega) (fun v hv => by obtain ⟨b, _, rfl⟩ := List.mem_map.1 hv; rfl)
  simp only [Nat.add_zero, hlen] at hst
  cases hi : P.info? e with
  | none => simp [hi] at hso
  | some ie =>
    simp [hi] at hso
    refine WO.val (by simp) ?_ rfl (h _ (hT.setRow hg))
    have hmin : Nat.min (str s).size dl = min s.length dl := by rw [str_size]
    have htk : (List.map (fun b : UInt8 => Value.int IntKind.u8 (b.toNat : Int)) (str s).data.toList).take (min s.length dl) = bcells (s.take (min s.length dl)) := by
      rw [str_list, ← List.map_take]
      rfl
    have hrun : (Builtin.copy_ #[t, tx] ty #[.slice (some ⟨g, o, none⟩) dl dc, .string (str s)]).run P w = .ok (.int .i64 (min s.length dl : Nat)) (w.setRow g (bl.take o ++ bcells (s.take (min s.length dl)) ++ bl.drop (o + min s.length dl)).toArray) := by
      simp [Builtin.copy_, run_underlying H.out, Builtin.lenOf, Builtin.firstCells, sizeOf, typeInfo, hi, hso, hmin]
      rw [htk, hst]
      simp only [Result.andThen, List.append_assoc]
      rfl
    simp [execOp, resolve, invoke, builtin, St_eval, hx, hy, hrun]

end
end Go.Proofs.YtkdidefghbeabaaGreat
