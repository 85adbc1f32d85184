/- history: the log against the document's rules, in plain lists. -/
import Derived.Test.YtlomipcjkkjhiaaHsD
import Derived.Test.YtlomipcjkkjhiaaHsE
namespace Go.Proofs.Ytlomipcjkkjhiaa
open Go Go.RowKit
set_option maxRecDepth 10000
set_option linter.unusedSimpArgs false
set_option linter.unusedVariables false

structure Inv (L : LogS) : Prop where
  i1 : ∀ i : Nat, L.events.find? (isEv 1 i) = (L.deeds[i]?).map fun d => ⟨1, i, d.client, d.op, Res.none⟩
  i1n : ∀ id : Int, id < 0 → L.events.find? (isEv 1 id) = none
  i2 : ∀ (i : Nat) (d : Deed), L.deeds[i]? = some d → d.how ≠ 2 → L.events.find? (isEv 2 i) = if d.how = 1 then some ⟨2, i, d.client, d.op, d.res⟩ else none
  i2n : ∀ i : Nat, L.deeds.length ≤ i → L.events.find? (isEv 2 i) = none
  i3 : ∀ i : Nat, (L.events.find? (isEv 3 i)).isSome = true ↔ ∃ d, L.deeds[i]? = some d ∧ d.how = 2
  i4 : cnt1 L.events = L.deeds.length
  i5 : ∀ c id : Int, mget L.of c = some id ↔ ∃ (i : Nat) (d : Deed), id = i ∧ L.deeds[i]? = some d ∧ d.client = c ∧ d.how ≠ 2
  i6 : ∀ v ∈ L.events, v.kind = 1 → ∃ (i : Nat) (d : Deed), v.id = i ∧ L.deeds[i]? = some d ∧ v.client = d.client
  i7 : (mkeys L.of).Nodup
  i8 : ∀ d ∈ L.deeds, d.how = 0 ∨ d.how = 1 ∨ d.how = 2

theorem Inv.empty : Inv ⟨[], [], []⟩ := ⟨by simp, by simp, by simp, by simp, by simp, rfl, by simp [mget], by simp, by simp [mkeys], by simp⟩

theorem find_snoc (es : List Ev) (x : Ev) (k id : Int) : (es ++ [x]).find? (isEv k id) = (es.find? (isEv k id)).or (if x.kind = k ∧ x.id = id then some x else none) := by
  rw [List.find?_append]
  congr 1
  by_cases h : x.kind = k ∧ x.id = id
  · rw [if_pos h]; simp [isEv, h.1, h.2]
  · rw [if_neg h]
    simp only [List.find?_cons, List.find?_nil]
    have : isEv k id x = false := by
      unfold isEv
      by_cases hk : x.kind = k
      · have : x.id ≠ id := fun e => h ⟨hk, e⟩
        simp [hk, this]
      · simp [hk]
    rw [this]

theorem mkeys_mset_nodup (m : List (Int × Int)) (k v : Int) (h : (mkeys m).Nodup) : (mkeys (mset m k v)).Nodup := by
  induction m with
  | nil => simp [mset, mkeys]
  | cons p m ih =>
    simp only [mkeys, List.map_cons, List.nodup_cons] at h
    rw [mset]
    split
    · rename_i hp
      simp only [mkeys, List.map_cons, List.nodup_cons]
      rw [← hp]
      exact h
    · rename_i hp
      have h3 := mkeys_mset_mem m k v p.1
      simp only [mkeys, List.map_cons, List.nodup_cons] at h3 ⊢
      refine ⟨fun hm => ?_, ih h.2⟩
      rcases h3.1 hm with h4 | h4
      · exact hp h4
      · exact h.1 h4
theorem mkeys_mdel_nodup (m : List (Int × Int)) (k : Int) (h : (mkeys m).Nodup) : (mkeys (mdel m k)).Nodup := by
  have hs : ∀ m : List (Int × Int), (mdel m k).Sublist m := by
    intro m
    induction m with
    | nil => simp [mdel]
    | cons p m ih =>
      rw [mdel]
      split
      · exact List.sublist_cons_self _ _
      · exact ih.cons_cons _
  exact List.Nodup.sublist ((hs m).map _) h

theorem Inv.inv {L : LogS} (h : Inv L) (c : Int) (o : AOp) (hc : mget L.of c = none) : Inv (L.inv c o) := by
  have hget : ∀ i : Nat, (L.deeds ++ [(⟨c, o, Res.none, 0⟩ : Deed)])[i]? = if i = L.deeds.length then some ⟨c, o, Res.none, 0⟩ else L.deeds[i]? := by
    intro i
    by_cases hi : i = L.deeds.length
    · subst hi; simp
    · rw [if_neg hi]
      rcases Nat.lt_or_ge i L.deeds.length with h1 | h1
      · rw [List.getElem?_append_left h1]
      · rw [List.getElem?_eq_none (by simp; omega), List.getElem?_eq_none h1]
  refine ⟨fun i => ?_, fun id hid => ?_, fun i d hd h2 => ?_, fun i hi => ?_, fun i => ?_, ?_, fun c' id => ?_, fun v hv hk => ?_, mkeys_mset_nodup _ _ _ h.i7, fun d hd => ?_⟩
  · show (L.events ++ [_]).find? _ = ((L.deeds ++ [_])[i]?).map _
    rw [find_snoc, h.i1, hget]
    by_cases hi : i = L.deeds.length
    · subst hi; simp
    · have : ¬ ((L.deeds.length : Int) = (i : Int)) := by omega
      simp only [if_neg hi, this, and_false, if_false, Option.or_none]
  · show (L.events ++ [_]).find? _ = none
    rw [find_snoc, h.i1n id hid, if_neg (by simp; omega)]
    rfl
  · have hd' : (L.deeds ++ [(⟨c, o, Res.none, 0⟩ : Deed)])[i]? = some d := hd
    rw [hget] at hd'
    show (L.events ++ [_]).find? _ = _
    rw [find_snoc, if_neg (by simp), Option.or_none]
    split at hd'
    · rename_i hi
      obtain rfl := Option.some.inj hd'
      rw [h.i2n i (by omega)]
      simp
    · exact h.i2 i d hd' h2
  · show (L.events ++ [_]).find? _ = none
    have hi' : L.deeds.length + 1 ≤ i := by simpa [LogS.inv] using hi
    rw [find_snoc, if_neg (by simp), Option.or_none, h.i2n i (by omega)]
  · show ((L.events ++ [_]).find? _).isSome = true ↔ ∃ d, (L.deeds ++ [(⟨c, o, Res.none, 0⟩ : Deed)])[i]? = some d ∧ _
    rw [find_snoc, if_neg (by simp), Option.or_none, h.i3, hget]
    by_cases hi : i = L.deeds.length
    · subst hi; simp
    · simp [hi]
  · show cnt1 (L.events ++ [_]) = (L.deeds ++ [_]).length
    unfold cnt1
    rw [List.countP_append]
    have := h.i4
    unfold cnt1 at this
    rw [this]
    simp
  · show mget (mset L.of c L.deeds.length) c' = some id ↔ ∃ i d, id = (i : Nat) ∧ (L.deeds ++ [(⟨c, o, Res.none, 0⟩ : Deed)])[i]? = some d ∧ _
    rw [mget_mset]
    by_cases hcc : c = c'
    · subst hcc
      rw [if_pos rfl]
      constructor
      · intro e
        obtain rfl := Option.some.inj e
        exact ⟨L.deeds.length, ⟨c, o, Res.none, 0⟩, rfl, by simp, rfl, by simp⟩
      · rintro ⟨i, d, rfl, hd, hcl, h2⟩
        rw [hget] at hd
        split at hd
        · rename_i hi; rw [hi]
        · have := (h.i5 c i).2 ⟨i, d, rfl, hd, hcl, h2⟩
          rw [hc] at this
          cases this
    · rw [if_neg hcc, h.i5]
      constructor
      · rintro ⟨i, d, rfl, hd, hcl, h2⟩
        have := (List.getElem?_eq_some_iff.1 hd).1
        exact ⟨i, d, rfl, by rw [hget, if_neg (by omega)]; exact hd, hcl, h2⟩
      · rintro ⟨i, d, rfl, hd, hcl, h2⟩
        rw [hget] at hd
        split at hd
        · obtain rfl := Option.some.inj hd
          exact absurd hcl hcc
        · exact ⟨i, d, rfl, hd, hcl, h2⟩
  · have hv' : v ∈ L.events ++ [_] := hv
    rcases List.mem_append.1 hv' with hv' | hv'
    · obtain ⟨i, d, e, hd, hcl⟩ := h.i6 v hv' hk
      have := (List.getElem?_eq_some_iff.1 hd).1
      exact ⟨i, d, e, by show (L.deeds ++ [_])[i]? = _; rw [hget, if_neg (by omega)]; exact hd, hcl⟩
    · obtain rfl := List.mem_singleton.1 hv'
      exact ⟨L.deeds.length, ⟨c, o, Res.none, 0⟩, rfl, by show (L.deeds ++ [_])[_]? = _; simp, rfl⟩
  · have hd' : d ∈ L.deeds ++ [_] := hd
    rcases List.mem_append.1 hd' with hd' | hd'
    · exact h.i8 d hd'
    · obtain rfl := List.mem_singleton.1 hd'
      exact .inl rfl

theorem Inv.com {L : LogS} (h : Inv L) (i : Nat) (d : Deed) (r : Res) (hi : L.deeds[i]? = some d) (h0 : d.how = 0) : Inv (L.com i d r) := by
  have hlt := (List.getElem?_eq_some_iff.1 hi).1
  have hget : ∀ j : Nat, (L.deeds.set i { d with how := 1, res := r })[j]? = if j = i then some { d with how := 1, res := r } else L.deeds[j]? := by
    intro j
    by_cases hj : j = i
    · subst hj; simp [hlt]
    · rw [if_neg hj, List.getElem?_set_ne (Ne.symm hj)]
  refine ⟨fun j => ?_, fun id hid => ?_, fun j d' hd h2 => ?_, fun j hj => ?_, fun j => ?_, ?_, fun c' id => ?_, fun v hv hk => ?_, h.i7, fun d' hd => ?_⟩
  · show (L.events ++ [_]).find? _ = ((L.deeds.set i _)[j]?).map _
    rw [find_snoc, if_neg (by simp), Option.or_none, h.i1, hget]
    by_cases hj : j = i
    · subst hj; rw [hi]; simp
    · rw [if_neg hj]
  · show (L.events ++ [_]).find? _ = none
    rw [find_snoc, h.i1n id hid, if_neg (by simp)]
    rfl
  · have hd' : (L.deeds.set i { d with how := 1, res := r })[j]? = some d' := hd
    rw [hget] at hd'
    show (L.events ++ [_]).find? _ = _
    rw [find_snoc]
    split at hd'
    · rename_i hj
      subst hj
      obtain rfl := Option.some.inj hd'
      rw [h.i2 j d hi (by omega), if_neg (by omega)]
      simp
    · rename_i hj
      rw [if_neg (by simp; omega), Option.or_none]
      exact h.i2 j d' hd' h2
  · show (L.events ++ [_]).find? _ = none
    have hj' : L.deeds.length ≤ j := by simpa [LogS.com] using hj
    rw [find_snoc, if_neg (by simp; omega), Option.or_none, h.i2n j hj']
  · show ((L.events ++ [_]).find? _).isSome = true ↔ ∃ d', (L.deeds.set i { d with how := 1, res := r })[j]? = some d' ∧ _
    rw [find_snoc, if_neg (by simp), Option.or_none, h.i3, hget]
    by_cases hj : j = i
    · subst hj; simp [hi, h0]
    · simp [hj]
  · show cnt1 (L.events ++ [_]) = (L.deeds.set i _).length
    have := h.i4
    unfold cnt1 at this ⊢
    rw [List.countP_append, this]
    simp
  · show mget L.of c' = some id ↔ ∃ j d', id = (j : Nat) ∧ (L.deeds.set i { d with how := 1, res := r })[j]? = some d' ∧ _
    rw [h.i5]
    constructor
    · rintro ⟨j, d', rfl, hd, hcl, h2⟩
      by_cases hj : j = i
      · subst hj
        rw [hi] at hd
        obtain rfl := Option.some.inj hd
        exact ⟨j, { d with how := 1, res := r }, rfl, by rw [hget, if_pos rfl], hcl, by simp⟩
      · exact ⟨j, d', rfl, by rw [hget, if_neg hj]; exact hd, hcl, h2⟩
    · rintro ⟨j, d', rfl, hd, hcl, h2⟩
      rw [hget] at hd
      split at hd
      · rename_i hj
        subst hj
        obtain rfl := Option.some.inj hd
        exact ⟨j, d, rfl, hi, hcl, by omega⟩
      · exact ⟨j, d', rfl, hd, hcl, h2⟩
  · have hv' : v ∈ L.events ++ [_] := hv
    rcases List.mem_append.1 hv' with hv' | hv'
    · obtain ⟨j, d', e, hd, hcl⟩ := h.i6 v hv' hk
      by_cases hj : j = i
      · subst hj
        rw [hi] at hd
        obtain rfl := Option.some.inj hd
        exact ⟨j, { d with how := 1, res := r }, e, by show (L.deeds.set _ _)[_]? = _; rw [hget, if_pos rfl], hcl⟩
      · exact ⟨j, d', e, by show (L.deeds.set _ _)[_]? = _; rw [hget, if_neg hj]; exact hd, hcl⟩
    · obtain rfl := List.mem_singleton.1 hv'
      simp at hk
  · rcases List.mem_or_eq_of_mem_set (show d' ∈ L.deeds.set i _ from hd) with hd' | rfl
    · exact h.i8 d' hd'
    · exact .inr (.inl rfl)

theorem Inv.res {L : LogS} (h : Inv L) (i : Nat) (d : Deed) (r : Res) (hi : L.deeds[i]? = some d) (h0 : d.how ≠ 2) : Inv (L.res i d r) := by
  have hlt := (List.getElem?_eq_some_iff.1 hi).1
  have hget : ∀ j : Nat, (L.deeds.set i { d with how := 2 })[j]? = if j = i then some { d with how := 2 } else L.deeds[j]? := by
    intro j
    by_cases hj : j = i
    · subst hj; simp [hlt]
    · rw [if_neg hj, List.getElem?_set_ne (Ne.symm hj)]
  refine ⟨fun j => ?_, fun id hid => ?_, fun j d' hd h2 => ?_, fun j hj => ?_, fun j => ?_, ?_, fun c' id => ?_, fun v hv hk => ?_, mkeys_mdel_nodup _ _ h.i7, fun d' hd => ?_⟩
  · show (L.events ++ [_]).find? _ = ((L.deeds.set i _)[j]?).map _
    rw [find_snoc, if_neg (by simp), Option.or_none, h.i1, hget]
    by_cases hj : j = i
    · subst hj; rw [hi]; simp
    · rw [if_neg hj]
  · show (L.events ++ [_]).find? _ = none
    rw [find_snoc, h.i1n id hid, if_neg (by simp)]
    rfl
  · have hd' : (L.deeds.set i { d with how := 2 })[j]? = some d' := hd
    rw [hget] at hd'
    show (L.events ++ [_]).find? _ = _
    rw [find_snoc, if_neg (by simp), Option.or_none]
    split at hd'
    · obtain rfl := Option.some.inj hd'
      simp at h2
    · exact h.i2 j d' hd' h2
  · show (L.events ++ [_]).find? _ = none
    have hj' : L.deeds.length ≤ j := by simpa [LogS.res] using hj
    rw [find_snoc, if_neg (by simp), Option.or_none, h.i2n j hj']
  · show ((L.events ++ [_]).find? _).isSome = true ↔ ∃ d', (L.deeds.set i { d with how := 2 })[j]? = some d' ∧ _
    rw [find_snoc, hget]
    by_cases hj : j = i
    · subst hj; simp
    · have : ¬ ((i : Int) = (j : Int)) := by omega
      simp only [this, and_false, if_false, Option.or_none, if_neg hj]
      exact h.i3 j
  · show cnt1 (L.events ++ [_]) = (L.deeds.set i _).length
    have := h.i4
    unfold cnt1 at this ⊢
    rw [List.countP_append, this]
    simp
  · show mget (mdel L.of d.client) c' = some id ↔ ∃ j d', id = (j : Nat) ∧ (L.deeds.set i { d with how := 2 })[j]? = some d' ∧ _
    rw [mget_mdel _ _ _ h.i7]
    by_cases hcc : d.client = c'
    · subst hcc
      rw [if_pos rfl]
      constructor
      · intro e; cases e
      · rintro ⟨j, d', rfl, hd, hcl, h2⟩
        rw [hget] at hd
        split at hd
        · obtain rfl := Option.some.inj hd
          simp at h2
        · rename_i hj
          have a1 := (h.i5 d.client j).2 ⟨j, d', rfl, hd, hcl, h2⟩
          have a2 := (h.i5 d.client i).2 ⟨i, d, rfl, hi, rfl, h0⟩
          rw [a1] at a2
          have := Option.some.inj a2
          omega
    · rw [if_neg hcc, h.i5]
      constructor
      · rintro ⟨j, d', rfl, hd, hcl, h2⟩
        have hj : j ≠ i := by
          rintro rfl
          rw [hi] at hd
          obtain rfl := Option.some.inj hd
          exact hcc hcl
        exact ⟨j, d', rfl, by rw [hget, if_neg hj]; exact hd, hcl, h2⟩
      · rintro ⟨j, d', rfl, hd, hcl, h2⟩
        rw [hget] at hd
        split at hd
        · obtain rfl := Option.some.inj hd
          simp at h2
        · exact ⟨j, d', rfl, hd, hcl, h2⟩
  · have hv' : v ∈ L.events ++ [_] := hv
    rcases List.mem_append.1 hv' with hv' | hv'
    · obtain ⟨j, d', e, hd, hcl⟩ := h.i6 v hv' hk
      by_cases hj : j = i
      · subst hj
        rw [hi] at hd
        obtain rfl := Option.some.inj hd
        exact ⟨j, { d with how := 2 }, e, by show (L.deeds.set _ _)[_]? = _; rw [hget, if_pos rfl], hcl⟩
      · exact ⟨j, d', e, by show (L.deeds.set _ _)[_]? = _; rw [hget, if_neg hj]; exact hd, hcl⟩
    · obtain rfl := List.mem_singleton.1 hv'
      simp at hk
  · rcases List.mem_or_eq_of_mem_set (show d' ∈ L.deeds.set i _ from hd) with hd' | rfl
    · exact h.i8 d' hd'
    · exact .inr (.inr rfl)

/-- A client has none open just if the document finds none. -/
theorem Inv.free {L : LogS} (h : Inv L) (c : Int) : L.events.any (badB L.events c) = (mget L.of c).isSome := by
  cases hm : mget L.of c with
  | some id =>
    obtain ⟨i, d, rfl, hd, hcl, h2⟩ := (h.i5 c id).1 hm
    have hf := h.i1 i
    rw [hd] at hf
    have hmem := List.mem_of_find?_eq_some hf
    refine List.any_eq_true.2 ⟨_, hmem, ?_⟩
    have hno : L.events.find? (isEv 3 (i : Int)) = none := by
      cases hc : L.events.find? (isEv 3 (i : Int)) with
      | none => rfl
      | some x =>
        obtain ⟨d', hd', hh⟩ := (h.i3 i).1 (by rw [hc]; rfl)
        rw [hd] at hd'
        obtain rfl := Option.some.inj hd'
        exact absurd hh h2
    simp [badB, hcl, hno]
  | none =>
    simp only [Option.isSome_none, List.any_eq_false]
    intro v hv hb
    simp only [badB, Bool.and_eq_true, decide_eq_true_eq, Option.isNone_iff_eq_none] at hb
    obtain ⟨hk, hcl, hno⟩ := hb
    obtain ⟨i, d, e, hd, hvc⟩ := h.i6 v hv hk
    have : mget L.of c = some (i : Int) := (h.i5 c i).2 ⟨i, d, rfl, hd, by rw [← hvc, hcl], fun hh => by
      have := (h.i3 i).2 ⟨d, hd, hh⟩
      rw [e] at hno
      rw [hno] at this
      cases this⟩
    rw [hm] at this
    cases this

theorem at_nat {L : LogS} {i : Nat} {d : Deed} (hd : L.deeds[i]? = some d) (h2 : d.how ≠ 2) : L.at i = some d := by
  unfold LogS.at
  rw [if_neg (by omega), Int.toNat_natCast, hd]
  simp [h2]

/-- Was the event put, as it is? -/
def tkB (L' L : LogS) (e : Ev) : Bool := match L'.events[L.events.length]? with
  | some x => decide (x = e)
  | none => false
/-- The log takes just what may follow, and as it is. -/
theorem Inv.took {L : LogS} (h : Inv L) (e : Ev) : L.took e = followsB L.events e ∧ (L.took e = true → (L.take e).events = L.events ++ [e]) ∧ Inv (L.take e) := by
  have hnone : tkB L L e = false := by simp [tkB]
  have hput : ∀ {L' : LogS} {x : Ev}, L'.events = L.events ++ [x] → tkB L' L e = decide (x = e) := by
    intro L' x hx; simp [tkB, hx]
  rw [show L.took e = tkB (L.take e) L e from rfl]
  by_cases h1 : e.kind = 1
  · have hfree := h.free e.client
    cases hm : mget L.of e.client with
    | some id =>
      have htk : L.take e = L := by simp [LogS.take, h1, hm]
      rw [hm] at hfree
      rw [htk, hnone]
      exact ⟨by simp [followsB, h1, hfree], fun x => absurd x Bool.false_ne_true, h⟩
    | none =>
      have htk : L.take e = L.inv e.client e.op := by simp [LogS.take, h1, hm]
      rw [hm] at hfree
      rw [htk, hput (x := ⟨1, L.deeds.length, e.client, e.op, Res.none⟩) rfl]
      refine ⟨?_, fun hd => ?_, h.inv _ _ hm⟩
      · obtain ⟨k, id, c, o, r⟩ := e
        simp only at h1
        subst h1
        simp only [followsB, if_true, hfree, h.i4, Ev.mk.injEq, true_and, Option.isSome_none, Bool.not_false, Bool.true_and]
        rw [Bool.eq_iff_iff]
        simp only [decide_eq_true_eq, Bool.and_eq_true]
        constructor
        · rintro ⟨a, b⟩; exact ⟨a.symm, b.symm⟩
        · rintro ⟨a, b⟩; exact ⟨a.symm, b.symm⟩
      · have := of_decide_eq_true hd
        rw [← this]
        rfl
  by_cases h23 : e.kind = 2 ∨ e.kind = 3
  rotate_left
  · have htk : L.take e = L := by
      have h2 : e.kind ≠ 2 := fun x => h23 (.inl x)
      have h3 : e.kind ≠ 3 := fun x => h23 (.inr x)
      simp [LogS.take, h1, h2, h3]
    rw [htk, hnone]
    exact ⟨by simp [followsB, h1, h23], fun x => absurd x Bool.false_ne_true, h⟩
  cases hat : L.at e.id with
  | none =>
    have htk : L.take e = L := by
      unfold LogS.take
      rw [if_neg h1, hat]
      simp
    rw [htk, hnone]
    refine ⟨?_, fun x => absurd x Bool.false_ne_true, h⟩
    unfold followsB
    rw [if_neg h1, if_pos h23]
    rcases LogS.at_none hat with hneg | ⟨i, hi, hle⟩ | ⟨i, d, hi, hd, hh⟩
    · rw [h.i1n _ hneg]
    · rw [hi, h.i1 i, List.getElem?_eq_none hle]
      rfl
    · rw [hi, h.i1 i, hd]
      have := (h.i3 i).2 ⟨d, hd, hh⟩
      simp [this]
  | some d =>
    obtain ⟨i, hi, hd, h2⟩ := LogS.at_some hat
    have hf1 := h.i1 i
    rw [hd] at hf1
    simp only [Option.map_some] at hf1
    have hf3 : (L.events.find? (isEv 3 (i : Int))).isSome = false := by
      cases hc : (L.events.find? (isEv 3 (i : Int))).isSome with
      | false => rfl
      | true =>
        obtain ⟨d', hd', hh⟩ := (h.i3 i).1 hc
        rw [hd] at hd'
        obtain rfl := Option.some.inj hd'
        exact absurd hh h2
    have hf2 := h.i2 i d hd h2
    have hfol : followsB L.events e = if d.client ≠ e.client ∨ d.op ≠ e.op then false else match (if d.how = 1 then some (⟨2, i, d.client, d.op, d.res⟩ : Ev) else none) with
        | none => decide (e.kind = 2) || decide (e.res = Res.busy)
        | some c => decide (e.kind = 3) && decide (e.res = c.res) := by
      unfold followsB
      rw [if_neg h1, if_pos h23, hi, hf1, hf2]
      simp only [hf3, Bool.false_eq_true, false_or]
      rfl
    rw [hfol]
    have heq : ∀ K : Int, e.kind = K → decide ((⟨K, i, d.client, d.op, e.res⟩ : Ev) = e) = !decide (d.client ≠ e.client ∨ d.op ≠ e.op) := by
      intro K hK
      obtain ⟨k, id, c, o, r⟩ := e
      simp only at hK hi
      subst hK hi
      by_cases hc : d.client = c <;> by_cases ho : d.op = o <;> simp [hc, ho]
    rcases h23 with hk | hk
    · by_cases h0 : d.how = 0
      · have htk : L.take e = L.com i d e.res := by
          unfold LogS.take
          rw [if_neg h1, if_pos hk, hat]
          simp [h0, hi]
        rw [htk, hput (x := ⟨2, i, d.client, d.op, e.res⟩) rfl]
        refine ⟨?_, fun hd' => ?_, h.com i d _ hd h0⟩
        · rw [heq 2 hk]
          by_cases hc : d.client ≠ e.client ∨ d.op ≠ e.op
          · simp [hc]
          · rw [if_neg hc]; simp [hc, h0, hk]
        · have := of_decide_eq_true hd'
          exact (congrArg (fun x => L.events ++ [x]) this)
      · have htk : L.take e = L := by
          unfold LogS.take
          rw [if_neg h1, if_pos hk, hat]
          simp [h0]
        rw [htk, hnone]
        refine ⟨?_, fun x => absurd x Bool.false_ne_true, h⟩
        have h1d : d.how = 1 := by
          rcases h.i8 d (List.mem_of_getElem? hd) with h | h | h
          · exact absurd h h0
          · exact h
          · exact absurd h h2
        simp [h1d, hk]
    · by_cases hw : e.res = d.want
      · have htk : L.take e = L.res i d e.res := by
          unfold LogS.take
          rw [if_neg h1, if_neg (by omega), if_pos hk, hat]
          simp [hw, hi]
        rw [htk, hput (x := ⟨3, i, d.client, d.op, e.res⟩) rfl]
        refine ⟨?_, fun hd' => ?_, h.res i d _ hd h2⟩
        · rw [heq 3 hk]
          by_cases hc : d.client ≠ e.client ∨ d.op ≠ e.op
          · simp [hc]
          · rw [if_neg hc]
            unfold Deed.want at hw
            by_cases hh : d.how = 1
            · simp [hc, hh, hk, hw]
            · simp [hc, hh, hk, hw]
        · have := of_decide_eq_true hd'
          exact (congrArg (fun x => L.events ++ [x]) this)
      · have htk : L.take e = L := by
          unfold LogS.take
          rw [if_neg h1, if_neg (by omega), if_pos hk, hat]
          simp [hw]
        rw [htk, hnone]
        refine ⟨?_, fun x => absurd x Bool.false_ne_true, h⟩
        unfold Deed.want at hw
        by_cases hh : d.how = 1
        · rw [if_pos hh] at hw
          simp [hh, hw]
        · rw [if_neg hh] at hw
          simp [hh, hw, hk]
end Go.Proofs.Ytlomipcjkkjhiaa
