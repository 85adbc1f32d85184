/- HistoryTime: plain laws; Before, the document's. -/
import Derived.Test.YtlomipcjkkjhiaaHsY
namespace Go.Proofs.Ytlomipcjkkjhiaa
open Go Go.RowKit
set_option maxRecDepth 10000
set_option linter.unusedSimpArgs false
set_option linter.unusedVariables false

theorem ofL_first (k a : Int) : ∀ (es : List Ev) (s : Nat), ((ofL k es s).find? fun x => decide (x.2.id = a)).map (·.1) = (es.findIdx? (isEv k a)).map (s + ·)
  | [], s => rfl
  | e :: es, s => by
    have ih := ofL_first k a es (s + 1)
    rw [ofL, List.findIdx?_cons]
    by_cases hk : e.kind = k
    · rw [if_pos hk, List.find?_cons]
      by_cases ha : e.id = a
      · simp [isEv, hk, ha]
      · have : isEv k a e = false := by simp [isEv, ha]
        simp only [ha, decide_false, this, Bool.false_eq_true, if_false, ih, Option.map_map]
        congr 1
        funext n
        simp; omega
    · rw [if_neg hk]
      have : isEv k a e = false := by simp [isEv, hk]
      simp only [this, Bool.false_eq_true, if_false, ih, Option.map_map]
      congr 1
      funext n
      simp; omega
theorem fstA_eq (its : List Ev) (a : Int) : fstA its a = (its.findIdx? (isEv 3 a)).getD its.length := by
  have h := ofL_first 3 a its 0
  unfold fstA
  cases hf : (ofL 3 its 0).find? fun x => decide (x.2.id = a) with
  | none =>
    rw [hf] at h
    cases hi : its.findIdx? (isEv 3 a) with
    | none => rfl
    | some i => rw [hi] at h; cases h
  | some x =>
    rw [hf] at h
    cases hi : its.findIdx? (isEv 3 a) with
    | none => rw [hi] at h; cases h
    | some i => rw [hi] at h; simpa using h
theorem befP_iff (its : List Ev) (a b : Int) : befP its a b = true ↔ ∃ (j : Nat) (e : Ev), its[j]? = some e ∧ e.kind = 1 ∧ e.id = b ∧ fstA its a < j := by
  unfold befP
  rw [List.any_eq_true]
  constructor
  · rintro ⟨x, hx, h⟩
    simp only [Bool.and_eq_true, decide_eq_true_eq] at h
    obtain ⟨_, h2, h3⟩ := ofL_idx 1 its 0 x hx
    exact ⟨x.1, x.2, by simpa using h2, h3, h.1, h.2⟩
  · rintro ⟨j, e, hj, hk, hb, hlt⟩
    refine ⟨(j, e), by simpa using ofL_mem 1 its 0 j e hj hk, by simp [hb, hlt]⟩
theorem hasV_nonneg (h : List Ev) (k id : Int) (fr : Nat) : 0 ≤ hasV h k id fr ↔ ∃ (j : Nat) (e : Ev), fr ≤ j ∧ h[j]? = some e ∧ isEv k id e = true := by
  rcases hasV_cases h k id fr with ⟨hv, hf⟩ | ⟨i, v, hv, hle, hi, hf⟩
  · rw [hv]
    refine ⟨fun h => absurd h (by decide), ?_⟩
    rintro ⟨j, e, hj, he, hb⟩
    have := List.find?_eq_none.1 hf e (List.mem_iff_getElem?.2 ⟨j - fr, by rw [List.getElem?_drop, show fr + (j - fr) = j from by omega]; exact he⟩)
    exact absurd hb this
  · rw [hv]
    exact ⟨fun _ => ⟨i, v, hle, hi, List.find?_some hf⟩, fun _ => by omega⟩
/-- The document's Before. -/
def rbefP (its : List Ev) (a b : Int) : Bool := decide (0 ≤ hasV its 3 a 0) && decide (0 ≤ hasV its 1 b (hasV its 3 a 0).toNat)
theorem bef_same (its : List Ev) (a b : Int) : rbefP its a b = befP its a b := by
  rw [Bool.eq_iff_iff, befP_iff, fstA_eq]
  unfold rbefP
  rw [Bool.and_eq_true, decide_eq_true_eq, decide_eq_true_eq]
  have e0 : hasV its 3 a 0 = match its.findIdx? (isEv 3 a) with | some k => (k : Int) | none => -1 := by
    unfold hasV
    rw [List.drop_zero]
    cases its.findIdx? (isEv 3 a) <;> simp
  cases hi : its.findIdx? (isEv 3 a) with
  | none =>
    rw [hi] at e0
    simp only [e0]
    refine ⟨fun h => absurd h.1 (by decide), ?_⟩
    rintro ⟨j, e, hj, _, _, hlt⟩
    have := (List.getElem?_eq_some_iff.1 hj).1
    simp at hlt
    omega
  | some k =>
    rw [hi] at e0
    simp only [e0, Int.toNat_natCast, hasV_nonneg, Option.getD_some]
    obtain ⟨hk, h3, _⟩ := List.findIdx?_eq_some_iff_getElem.1 hi
    constructor
    · rintro ⟨_, j, e, hle, hj, hb⟩
      simp only [isEv, Bool.and_eq_true, decide_eq_true_eq] at hb h3
      refine ⟨j, e, hj, hb.1, hb.2, ?_⟩
      rcases Nat.lt_or_ge k j with h | h
      · exact h
      · obtain rfl : j = k := by omega
        rw [List.getElem?_eq_getElem hk] at hj
        obtain rfl := Option.some.inj hj
        rw [h3.1] at hb
        exact absurd hb.1 (by decide)
    · rintro ⟨j, e, hj, h1, hb, hlt⟩
      exact ⟨by omega, j, e, by omega, hj, by simp [isEv, h1, hb]⟩

/-- What every event of a history follows. -/
theorem rRight_at : ∀ (es pre : List Ev), rRightFrom pre es = true → ∀ (k : Nat) (e : Ev), es[k]? = some e → followsB (pre ++ es.take k) e = true
  | [], _, _, k, e, h => by simp at h
  | x :: es, pre, hr, k, e, h => by
    rw [rRightFrom, Bool.and_eq_true] at hr
    cases k with
    | zero =>
      obtain rfl : x = e := by simpa using h
      simpa using hr.1
    | succ k =>
      have := rRight_at es (pre ++ [x]) hr.2 k e (by simpa using h)
      simpa using this
theorem foll1 {h : List Ev} {e : Ev} (hf : followsB h e = true) (hk : e.kind = 1) : e.id = cnt1 h := by
  simp only [followsB, hk, if_true, Bool.and_eq_true, decide_eq_true_eq] at hf
  exact hf.2.1
theorem foll2 {h : List Ev} {e : Ev} (hf : followsB h e = true) (hk : e.kind = 2) : (∃ v, h.find? (isEv 1 e.id) = some v) ∧ h.find? (isEv 3 e.id) = none ∧ h.find? (isEv 2 e.id) = none := by
  unfold followsB at hf
  rw [if_neg (by omega), if_pos (.inl hk)] at hf
  cases hv : h.find? (isEv 1 e.id) with
  | none => rw [hv] at hf; cases hf
  | some v =>
    rw [hv] at hf
    replace hf : (if (h.find? (isEv 3 e.id)).isSome = true ∨ v.client ≠ e.client ∨ v.op ≠ e.op then false else match h.find? (isEv 2 e.id) with
      | none => decide (e.kind = 2) || decide (e.res = Res.busy)
      | some c => decide (e.kind = 3) && decide (e.res = c.res)) = true := hf
    by_cases hc : (h.find? (isEv 3 e.id)).isSome = true ∨ v.client ≠ e.client ∨ v.op ≠ e.op
    · rw [if_pos hc] at hf; cases hf
    · rw [if_neg hc] at hf
      refine ⟨⟨v, rfl⟩, ?_, ?_⟩
      · cases h3 : h.find? (isEv 3 e.id) with
        | none => rfl
        | some y => exact absurd (Or.inl (by rw [h3]; rfl)) hc
      · cases h2 : h.find? (isEv 2 e.id) with
        | none => rfl
        | some y => rw [h2] at hf; simp [hk] at hf
theorem foll3 {h : List Ev} {e : Ev} (hf : followsB h e = true) (hk : e.kind = 3) : e.res = Res.busy ∨ ∃ y, h.find? (isEv 2 e.id) = some y := by
  unfold followsB at hf
  rw [if_neg (by omega), if_pos (.inr hk)] at hf
  cases hv : h.find? (isEv 1 e.id) with
  | none => rw [hv] at hf; cases hf
  | some v =>
    rw [hv] at hf
    replace hf : (if (h.find? (isEv 3 e.id)).isSome = true ∨ v.client ≠ e.client ∨ v.op ≠ e.op then false else match h.find? (isEv 2 e.id) with
      | none => decide (e.kind = 2) || decide (e.res = Res.busy)
      | some c => decide (e.kind = 3) && decide (e.res = c.res)) = true := hf
    by_cases hc : (h.find? (isEv 3 e.id)).isSome = true ∨ v.client ≠ e.client ∨ v.op ≠ e.op
    · rw [if_pos hc] at hf; cases hf
    · rw [if_neg hc] at hf
      cases h2 : h.find? (isEv 2 e.id) with
      | none => rw [h2] at hf; simp [hk] at hf; exact .inl hf
      | some y => exact .inr ⟨y, rfl⟩
theorem find_none_at {h : List Ev} {k id : Int} {j i : Nat} {e : Ev} (hf : (h.take i).find? (isEv k id) = none) (hj : h[j]? = some e) (hb : isEv k id e = true) : i ≤ j := by
  rcases Nat.lt_or_ge j i with hlt | hge
  · exact absurd hb (List.find?_eq_none.1 hf e (List.mem_iff_getElem?.2 ⟨j, by rw [List.getElem?_take, if_pos hlt]; exact hj⟩))
  · exact hge
theorem find_some_at {h : List Ev} {k id : Int} {i : Nat} {v : Ev} (hf : (h.take i).find? (isEv k id) = some v) : ∃ j, j < i ∧ h[j]? = some v ∧ isEv k id v = true := by
  obtain ⟨j, hj⟩ := List.mem_iff_getElem?.1 (List.mem_of_find?_eq_some hf)
  rw [List.getElem?_take] at hj
  split at hj
  · rename_i hlt; exact ⟨j, hlt, hj, List.find?_some hf⟩
  · cases hj
theorem cnt1_mono {h : List Ev} {i j : Nat} (hij : i < j) {e : Ev} (hi : h[i]? = some e) (hk : e.kind = 1) : cnt1 (h.take i) < cnt1 (h.take j) := by
  have hlt := (List.getElem?_eq_some_iff.1 hi).1
  have h1 := cnt1_snoc h i hlt
  have he : h[i] = e := (List.getElem?_eq_some_iff.1 hi).2
  rw [he, if_pos hk] at h1
  have h2 : cnt1 (h.take (i + 1)) ≤ cnt1 (h.take j) := by
    unfold cnt1
    exact List.Sublist.countP_le ((List.take_prefix_take_left (by omega)).sublist)
  omega

theorem time_law {its : List Ev} (hR : rRightFrom [] its = true) : (ordL its).Pairwise fun u v => v ≠ u ∧ befP its v u = false := by
  have hat : ∀ (k : Nat) (e : Ev), its[k]? = some e → followsB (its.take k) e = true := fun k e h => by simpa using rRight_at its [] hR k e h
  unfold ordL
  rw [List.pairwise_map, List.pairwise_filter, List.pairwise_iff_getElem]
  intro p q hp hq hpq h2p h2q
  simp only [decide_eq_true_eq] at h2p h2q
  obtain ⟨⟨u, hu⟩, _, _⟩ := foll2 (hat p _ (List.getElem?_eq_getElem hp)) h2p
  obtain ⟨_, h3, h2⟩ := foll2 (hat q _ (List.getElem?_eq_getElem hq)) h2q
  refine ⟨fun e => ?_, ?_⟩
  · have := find_none_at h2 (List.getElem?_eq_getElem hp) (by simp [isEv, h2p, e])
    omega
  · cases hb : befP its its[q].id its[p].id with
    | false => rfl
    | true =>
      exfalso
      obtain ⟨j, e, hj, hk, hid, hlt⟩ := (befP_iff _ _ _).1 hb
      have hjl := (List.getElem?_eq_some_iff.1 hj).1
      rw [fstA_eq] at hlt
      cases hi : its.findIdx? (isEv 3 its[q].id) with
      | none => rw [hi] at hlt; simp at hlt; omega
      | some f =>
        rw [hi] at hlt
        simp only [Option.getD_some] at hlt
        obtain ⟨hfl, hb3, _⟩ := List.findIdx?_eq_some_iff_getElem.1 hi
        have h5 := find_none_at h3 (List.getElem?_eq_getElem hfl) hb3
        obtain ⟨g, hgp, hg, hgb⟩ := find_some_at hu
        simp only [isEv, Bool.and_eq_true, decide_eq_true_eq] at hgb
        have h6 := foll1 (hat g u hg) hgb.1
        have h7 := foll1 (hat j e hj) hk
        have h8 := cnt1_mono (i := g) (j := j) (by omega) hg hgb.1
        omega
theorem time_law2 {its : List Ev} (hR : rRightFrom [] its = true) (i : Nat) (h : i < its.length) (hk : its[i].kind = 3) (hb : its[i].res ≠ Res.busy) : 0 ≤ hasV its 2 its[i].id 0 := by
  have hat := rRight_at its [] hR i _ (List.getElem?_eq_getElem h)
  rw [List.nil_append] at hat
  rcases foll3 hat hk with h1 | ⟨y, hy⟩
  · exact absurd h1 hb
  · obtain ⟨j, _, hj, hjb⟩ := find_some_at hy
    exact (hasV_nonneg _ _ _ _).2 ⟨j, y, Nat.zero_le _, hj, hjb⟩

set_option maxHeartbeats 4000000 in
theorem rBefore_spec (w0 : World) (a : Option Addr) (cap : Nat) (its : List Ev) (x y : Int) (hS : Sl w0 a cap 14 (its.map Ev.enc)) :
    Calls Try.prog 29 #[.slice a its.length cap, .int .i64 x, .int .i64 y] w0 fun e w' => e = .returned (.bool (rbefP its x y)) ∧ Goes w0 [] [] w' := by
  have hg := Goes.refl w0
  have hlim := hS.lim
  simp only [List.length_map] at hlim
  unfold rbefP
  rcases hasV_cases its 3 x 0 with ⟨hv, hf⟩ | ⟨i, v, hv, _, hi, hf⟩
  · have p1 : ∀ {w Fs}, Goes w0 [] Fs w → Calls Try.prog 30 #[.slice a its.length cap, .int .i64 3, .int .i64 x, .int .i64 0] w _ := fun h => Has0_spec hv (hS.goes h)
    refine enter Try.func29 rfl (by simp only [Try.ntmps29, List.length_cons, List.length_nil, Nat.reduceAdd, Nat.reduceSub, List.replicate_succ, List.replicate_zero, List.cons_append, List.nil_append]; exact rfl) ?_
    repeat' (first
      | with_reducible refine QX.next ?_ | with_reducible refine WC.seq ?_ | with_reducible refine WC.region ?_ | with_reducible refine WC.block ?_ | with_reducible refine QX.bnorm ?_ | with_reducible refine QX.bret ?_ | with_reducible refine QX.ret ?_ | with_reducible refine QX.exit ?_ | with_reducible refine QX.bsame ?_ | with_reducible refine QX.bother rfl ?_
      | with_reducible refine WO.nil ?_ | with_reducible refine WC.skip ?_ | with_reducible refine WC.ret ?_ | with_reducible refine WC.exit ?_ | ((with_reducible refine WC.id ?_); first | refine WC.condT rfl ?_ | refine WC.condF rfl ?_)
      | (refine WC.quietG hg ?_; clear hg) | ((with_reducible refine WQ.nilG ?_); intro w hg)
      | ((with_reducible refine WQ.cid ?_); first | refine WQ.xG ?_ | refine WQ.pure ?_)
      | ((with_reducible refine WQ.gid ?_); first | refine WQ.on rfl ?_ | refine WQ.offN rfl rfl ?_)
      | ((with_reducible refine WO.cid ?_); first
        | refine WO.x ?_ | (refine op_alloc hg ?_; clear hg; intro b w hg; refine WO.fr ?_) | (refine op_boxA hg ?_; clear hg; intro b w hg; refine WO.fr ?_) | (refine op_box1 hg ?_; clear hg; intro b w hg; refine WO.fr ?_)
        | (refine op_store hg ?_; clear hg; intro w hg; refine WO.fr ?_; try simp only [List.set_cons_succ, List.set_cons_zero] at hg)
        | (refine op_storeA hg ?_; clear hg; intro w hg; refine WO.fr ?_; try simp only [over, List.take_zero, List.take_succ_cons, List.drop_zero, List.drop_succ_cons, List.nil_append, List.cons_append, List.append_nil, List.length_cons, List.length_nil, Nat.zero_add, Nat.reduceAdd, splice, cellsL] at hg)
        | (refine op_pure hg ?_; clear hg; intro w hg; refine WO.fr ?_) | (refine op_pureB hg ?_; clear hg; intro w hg c hc; cases c <;> refine WO.fr ?_))
      | ((with_reducible refine WO.gid ?_); first | refine WO.on rfl ?_ | refine WO.offN rfl rfl ?_))
    exact ret1 rfl ⟨by rw [hv]; rfl, hg.drop⟩
  · have p1 : ∀ {w Fs}, Goes w0 [] Fs w → Calls Try.prog 30 #[.slice a its.length cap, .int .i64 3, .int .i64 x, .int .i64 0] w _ := fun h => Has0_spec hv (hS.goes h)
    have hil := (List.getElem?_eq_some_iff.1 hi).1
    have p2 : ∀ {w Fs}, Goes w0 [] Fs w → Calls Try.prog 30 #[.slice a its.length cap, .int .i64 1, .int .i64 y, .int .i64 i] w _ := fun h => Has_spec _ a cap its 1 y i (by omega) (hS.goes h)
    rw [hv, Int.toNat_natCast]
    rcases hasV_cases its 1 y i with ⟨hw, hf⟩ | ⟨j, v, hw, _, hj, hf⟩
    all_goals
      rw [hw] at p2 ⊢
      refine enter Try.func29 rfl (by simp only [Try.ntmps29, List.length_cons, List.length_nil, Nat.reduceAdd, Nat.reduceSub, List.replicate_succ, List.replicate_zero, List.cons_append, List.nil_append]; exact rfl) ?_
      repeat' (first
        | with_reducible refine QX.next ?_ | with_reducible refine WC.seq ?_ | with_reducible refine WC.region ?_ | with_reducible refine WC.block ?_ | with_reducible refine QX.bnorm ?_ | with_reducible refine QX.bret ?_ | with_reducible refine QX.ret ?_ | with_reducible refine QX.exit ?_ | with_reducible refine QX.bsame ?_ | with_reducible refine QX.bother rfl ?_
        | with_reducible refine WO.nil ?_ | with_reducible refine WC.skip ?_ | with_reducible refine WC.ret ?_ | with_reducible refine WC.exit ?_ | ((with_reducible refine WC.id ?_); first | refine WC.condT rfl ?_ | refine WC.condF rfl ?_)
        | (refine WC.quietG hg ?_; clear hg) | ((with_reducible refine WQ.nilG ?_); intro w hg)
        | ((with_reducible refine WQ.cid ?_); first | refine WQ.xG ?_ | refine WQ.pure ?_)
        | ((with_reducible refine WQ.gid ?_); first | refine WQ.on rfl ?_ | refine WQ.offN rfl rfl ?_)
        | ((with_reducible refine WO.cid ?_); first
          | refine WO.x ?_ | (refine op_alloc hg ?_; clear hg; intro b w hg; refine WO.fr ?_) | (refine op_boxA hg ?_; clear hg; intro b w hg; refine WO.fr ?_) | (refine op_box1 hg ?_; clear hg; intro b w hg; refine WO.fr ?_)
          | (refine op_store hg ?_; clear hg; intro w hg; refine WO.fr ?_; try simp only [List.set_cons_succ, List.set_cons_zero] at hg)
          | (refine op_storeA hg ?_; clear hg; intro w hg; refine WO.fr ?_; try simp only [over, List.take_zero, List.take_succ_cons, List.drop_zero, List.drop_succ_cons, List.nil_append, List.cons_append, List.append_nil, List.length_cons, List.length_nil, Nat.zero_add, Nat.reduceAdd, splice, cellsL] at hg)
          | (refine op_pure hg ?_; clear hg; intro w hg; refine WO.fr ?_) | (refine op_pureB hg ?_; clear hg; intro w hg c hc; cases c <;> refine WO.fr ?_))
        | ((with_reducible refine WO.gid ?_); first | refine WO.on rfl ?_ | refine WO.offN rfl rfl ?_))
      exact ret1 rfl ⟨by simp [gt], hg.drop⟩
end Go.Proofs.Ytlomipcjkkjhiaa
