/- CacheKeeps: plain laws; place. -/
import Derived.Test.YtdjepfpmoeecaaaCaM
namespace Go.Proofs.Ytdjepfpmoeecaaa
open Go Go.RowKit
set_option maxRecDepth 10000
set_option linter.unusedSimpArgs false
set_option linter.unusedVariables false

def CAct.ce (a : CAct) : CE := ⟨a.at', a.mode, a.tok⟩
def atB (p : Int) (a : CAct) : Bool := decide (a.at' = p)
def placeI (l : List CAct) (p : Int) : Int := match l.findIdx? (atB p) with
  | some k => k
  | none => -1
theorem plc_ce (l : List CAct) : plc (l.map CAct.ce) = l.map (·.at') := by simp [plc, CAct.ce]
theorem kr_places {ws : List CE} {l : List CAct} (hs : (plc ws).Pairwise (· < ·)) (hp : ws.Perm (l.map CAct.ce)) : (l.map (·.at')).Nodup ∧ ∀ p, p ∈ plc ws ↔ p ∈ l.map (·.at') := by
  have h1 : (plc ws).Perm (l.map (·.at')) := by rw [← plc_ce]; exact hp.map _
  exact ⟨h1.nodup_iff.1 (sorted_nodup hs), fun p => h1.mem_iff⟩
theorem placeI_cases (l : List CAct) (p : Int) : (placeI l p = -1 ∧ p ∉ l.map (·.at')) ∨ ∃ (k : Nat) (y : CAct), placeI l p = k ∧ l[k]? = some y ∧ y.at' = p := by
  unfold placeI
  cases hf : l.findIdx? (atB p) with
  | none =>
    refine .inl ⟨rfl, fun hm => ?_⟩
    obtain ⟨a, ha, he⟩ := List.mem_map.1 hm
    have := List.findIdx?_eq_none_iff.1 hf a ha
    simp [atB, he] at this
  | some k =>
    obtain ⟨hk, h1, _⟩ := List.findIdx?_eq_some_iff_getElem.1 hf
    exact .inr ⟨k, l[k], rfl, List.getElem?_eq_getElem hk, by simpa [atB] using h1⟩
theorem get_split {α : Type} {l : List α} {k : Nat} {y : α} (h : l[k]? = some y) : l = l.take k ++ y :: l.drop (k + 1) := by
  have hlt := (List.getElem?_eq_some_iff.1 h).1
  have hv := (List.getElem?_eq_some_iff.1 h).2
  rw [← hv]; simp
theorem kr_set {ws : List CE} {l : List CAct} (hs : (plc ws).Pairwise (· < ·)) (hp : ws.Perm (l.map CAct.ce)) {k : Nat} {y a : CAct} (hy : l[k]? = some y) (hya : y.at' = a.at') :
    (ws.take (ahead ws a.at') ++ a.ce :: ws.drop (ahead ws a.at' + 1)).Perm ((l.set k a).map CAct.ce) := by
  have hlt := (List.getElem?_eq_some_iff.1 hy).1
  have hin : a.at' ∈ plc ws := ((kr_places hs hp).2 _).2 (hya ▸ List.mem_map_of_mem (List.mem_of_getElem? hy))
  obtain ⟨x, hx, hxe⟩ := Option.map_eq_some_iff.1 ((at_ahead hs).2 hin)
  have hyw : y.ce ∈ ws := hp.mem_iff.2 (List.mem_map_of_mem (List.mem_of_getElem? hy))
  have hxy : x = y.ce := by
    have h1 := find_mem hs (List.mem_of_getElem? hx)
    have h2 := find_mem hs hyw
    rw [show y.ce.at' = x.at' from hya.trans hxe.symm] at h2
    exact Option.some.inj (h1.symm.trans h2)
  have e1 := get_split hx
  have e2 := get_split hy
  have h1 : (x :: (ws.take (ahead ws a.at') ++ ws.drop (ahead ws a.at' + 1))).Perm (y.ce :: (l.take k ++ l.drop (k + 1)).map CAct.ce) := by
    have a1 : (x :: (ws.take (ahead ws a.at') ++ ws.drop (ahead ws a.at' + 1))).Perm ws := by
      conv => rhs; rw [e1]
      exact List.perm_middle.symm
    have a2 : (l.map CAct.ce).Perm (y.ce :: (l.take k ++ l.drop (k + 1)).map CAct.ce) := by
      conv => lhs; rw [e2]
      rw [List.map_append, List.map_cons, List.map_append]
      exact List.perm_middle
    exact (a1.trans hp).trans a2
  rw [hxy] at h1
  have h2 := (List.perm_cons _).1 h1
  rw [List.set_eq_take_append_cons_drop, if_pos hlt, List.map_append, List.map_cons]
  refine List.perm_middle.trans (List.Perm.trans ?_ List.perm_middle.symm)
  rw [← List.map_append]
  exact h2.cons _
theorem kr_add {ws : List CE} {l : List CAct} (hp : ws.Perm (l.map CAct.ce)) (a : CAct) (i : Nat) : (ws.take i ++ a.ce :: ws.drop i).Perm ((l ++ [a]).map CAct.ce) := by
  rw [List.map_append]
  refine List.perm_middle.trans ?_
  rw [List.take_append_drop]
  exact (hp.cons _).trans (List.perm_append_comm (l₁ := [a.ce]) (l₂ := l.map CAct.ce))
theorem kr_get {ws : List CE} {g : Int → Option Ent} {h : List Int} {l : List CAct} (H : CRel ws g h) (hp : ws.Perm (l.map CAct.ce)) (p md : Int) :
    (placeI l p = -1 ∧ rget ws p md = none) ∨ ∃ (k : Nat) (y : CAct), placeI l p = k ∧ l[k]? = some y ∧ y.at' = p ∧ rget ws p md = if y.mode = md then some y.ce else none := by
  rcases placeI_cases l p with ⟨h1, h2⟩ | ⟨k, y, h1, h2, h3⟩
  · refine .inl ⟨h1, ?_⟩
    rw [H.rget]
    cases hg : g p with
    | none => rfl
    | some e => exact absurd (((kr_places H.sorted hp).2 p).1 ((H.has p).1 (by rw [hg]; rfl))) h2
  · refine .inr ⟨k, y, h1, h2, h3, ?_⟩
    have hg : g p = some ⟨y.mode, y.tok⟩ := (H.iff p _).2 ⟨y.ce, hp.mem_iff.2 (List.mem_map_of_mem (List.mem_of_getElem? h2)), h3, rfl⟩
    rw [H.rget, hg]
    by_cases hm : y.mode = md
    · simp only [hm, if_true]
      rw [← h3, ← hm]; rfl
    · simp only [hm, if_false]
theorem ahead_count : ∀ {ws : List CE}, (plc ws).Pairwise (· < ·) → ∀ f : Int, ahead ws f = ws.countP fun e => decide (e.at' < f)
  | [], _, f => by simp [ahead]
  | x :: ws, hs, f => by
    simp only [plc, List.map_cons, List.pairwise_cons] at hs
    have ih := ahead_count (ws := ws) hs.2 f
    rw [ahead_cons, List.countP_cons]
    by_cases h : x.at' < f
    · rw [if_pos h, ih]; simp [h]
    · rw [if_neg h]
      have : ws.countP (fun e => decide (e.at' < f)) = 0 := by
        rw [List.countP_eq_zero]
        intro e he
        have := hs.1 _ (List.mem_map_of_mem he)
        simp; omega
      rw [this]; simp [h]
def belowN (l : List CAct) (f : Int) : Nat := l.countP fun a => decide (a.at' < f)
theorem kr_below {ws : List CE} {l : List CAct} (hs : (plc ws).Pairwise (· < ·)) (hp : ws.Perm (l.map CAct.ce)) (f : Int) : ahead ws f = belowN l f := by
  rw [ahead_count hs, hp.countP_eq, List.countP_map]
  rfl
theorem belowN_snoc (l : List CAct) (f : Int) (i : Nat) (h : i < l.length) : belowN (l.take (i + 1)) f = belowN (l.take i) f + if l[i].at' < f then 1 else 0 := by
  unfold belowN
  rw [List.take_succ_eq_append_getElem h, List.countP_append]
  simp
theorem belowN_le (l : List CAct) (f : Int) : belowN l f ≤ l.length := List.countP_le_length

set_option maxHeartbeats 2000000 in
theorem place_spec (w0 : World) (a : Option Addr) (cap : Nat) (l : List CAct) (p : Int) (hS : Sl w0 a cap 10 (l.map CAct.enc)) :
    Calls Try.prog 11 #[.slice a l.length cap, .int .i64 p] w0 fun e w' => e = .returned (.int .i64 (placeI l p)) ∧ Goes w0 [] [] w' := by
  have hg := Goes.refl w0
  have hlim := hS.lim
  simp only [List.length_map] at hlim
  refine enter Try.func11 rfl (by simp only [Try.ntmps11, List.length_cons, List.length_nil, Nat.reduceAdd, Nat.reduceSub, List.replicate_succ, List.replicate_zero, List.cons_append, List.nil_append]; exact rfl) ?_
  repeat' (first
    | with_reducible refine QX.next ?_ | with_reducible refine WC.seq ?_ | with_reducible refine WC.region ?_ | with_reducible refine WC.block ?_ | with_reducible refine QX.bnorm ?_ | with_reducible refine QX.bret ?_ | with_reducible refine QX.ret ?_ | with_reducible refine QX.exit ?_ | with_reducible refine QX.bsame ?_ | with_reducible refine QX.bother rfl ?_
    | with_reducible refine WO.nil ?_ | with_reducible refine WC.skip ?_ | with_reducible refine WC.ret ?_ | with_reducible refine WC.exit ?_ | ((with_reducible refine WC.id ?_); first | refine WC.condT rfl ?_ | refine WC.condF rfl ?_)
    | (refine WC.quietG hg ?_; clear hg) | ((with_reducible refine WQ.nilG ?_); intro w hg)
    | ((with_reducible refine WQ.cid ?_); first | refine WQ.xG ?_ | refine WQ.pure ?_)
    | ((with_reducible refine WQ.gid ?_); first | refine WQ.on rfl ?_ | refine WQ.offN rfl rfl ?_)
    | ((with_reducible refine WO.cid ?_); first
      | refine WO.x ?_ | (refine op_alloc hg ?_; clear hg; intro b w hg; refine WO.fr ?_) | (refine op_boxA hg ?_; clear hg; intro b w hg; refine WO.fr ?_) | (refine op_box1 hg ?_; clear hg; intro b w hg; refine WO.fr ?_)
      | (refine op_store hg ?_; clear hg; intro w hg; refine WO.fr ?_; try simp only [List.set_cons_succ, List.set_cons_zero] at hg)
      | (refine op_storeA hg ?_; clear hg; intro w hg; refine WO.fr ?_; try simp only [over, List.take_zero, List.take_succ_cons, List.drop_zero, List.drop_succ_cons, List.nil_append, List.cons_append, List.append_nil, List.length_cons, List.length_nil, Nat.zero_add, Nat.reduceAdd, splice, cellsL] at hg)
      | (refine op_pure hg ?_; clear hg; intro w hg; refine WO.fr ?_) | (refine op_pureB hg ?_; clear hg; intro w hg c hc; cases c <;> refine WO.fr ?_))
    | ((with_reducible refine WO.gid ?_); first | refine WO.on rfl ?_ | refine WO.offN rfl rfl ?_))
  refine WC.loopS [4, 5, 6, 9, 10, 11, 12, 13, 14, 15, 16, 17, 18, 19, 20] (fun xs d w => ∃ i : Nat, d = [] ∧ (gt xs 3) = .int .i64 i ∧ i ≤ l.length ∧ (∀ y ∈ l.take i, y.at' ≠ p) ∧ Goes w0 [] [] w) (fun xs _ _ => l.length - (intOf (gt xs 3)).toNat) ?_ ?_
  · exact ⟨0, rfl, rfl, Nat.zero_le _, by simp, hg⟩
  clear hg
  intro xs d w hlen hI K hK
  replace hlen := len_cons hlen
  obtain ⟨x4, xs, rfl, hlen⟩ := hlen
  replace hlen := len_cons hlen
  obtain ⟨x5, xs, rfl, hlen⟩ := hlen
  replace hlen := len_cons hlen
  obtain ⟨x6, xs, rfl, hlen⟩ := hlen
  replace hlen := len_cons hlen
  obtain ⟨x9, xs, rfl, hlen⟩ := hlen
  replace hlen := len_cons hlen
  obtain ⟨x10, xs, rfl, hlen⟩ := hlen
  replace hlen := len_cons hlen
  obtain ⟨x11, xs, rfl, hlen⟩ := hlen
  replace hlen := len_cons hlen
  obtain ⟨x12, xs, rfl, hlen⟩ := hlen
  replace hlen := len_cons hlen
  obtain ⟨x13, xs, rfl, hlen⟩ := hlen
  replace hlen := len_cons hlen
  obtain ⟨x14, xs, rfl, hlen⟩ := hlen
  replace hlen := len_cons hlen
  obtain ⟨x15, xs, rfl, hlen⟩ := hlen
  replace hlen := len_cons hlen
  obtain ⟨x16, xs, rfl, hlen⟩ := hlen
  replace hlen := len_cons hlen
  obtain ⟨x17, xs, rfl, hlen⟩ := hlen
  replace hlen := len_cons hlen
  obtain ⟨x18, xs, rfl, hlen⟩ := hlen
  replace hlen := len_cons hlen
  obtain ⟨x19, xs, rfl, hlen⟩ := hlen
  replace hlen := len_cons hlen
  obtain ⟨x20, xs, rfl, hlen⟩ := hlen
  replace hlen := len_nil hlen
  subst hlen
  refine WC.frame (by simp only [setAll, List.set_cons_succ, List.set_cons_zero]; exact rfl) ?_
  simp only [gt] at hI
  obtain ⟨i, rfl, rfl, hi, hno, hg⟩ := hI
  by_cases hlt : i < l.length
  rotate_left
  · rw [List.take_of_length_le (by omega)] at hno
    repeat' (first
      | with_reducible refine QX.next ?_ | with_reducible refine WC.seq ?_ | with_reducible refine WC.region ?_ | with_reducible refine WC.block ?_ | with_reducible refine QX.bnorm ?_ | with_reducible refine QX.bret ?_ | with_reducible refine QX.ret ?_ | with_reducible refine QX.exit ?_ | with_reducible refine QX.bsame ?_ | with_reducible refine QX.bother rfl ?_
      | with_reducible refine WO.nil ?_ | with_reducible refine WC.skip ?_ | with_reducible refine WC.ret ?_ | with_reducible refine WC.exit ?_ | ((with_reducible refine WC.id ?_); first | refine WC.condT rfl ?_ | refine WC.condF rfl ?_)
      | (refine WC.quietG hg ?_; clear hg) | ((with_reducible refine WQ.nilG ?_); intro w hg)
      | ((with_reducible refine WQ.cid ?_); first | refine WQ.xG ?_ | refine WQ.pure ?_)
      | ((with_reducible refine WQ.gid ?_); first | refine WQ.on rfl ?_ | refine WQ.offN rfl rfl ?_)
      | ((with_reducible refine WO.cid ?_); first
        | refine WO.x ?_ | (refine op_alloc hg ?_; clear hg; intro b w hg; refine WO.fr ?_) | (refine op_boxA hg ?_; clear hg; intro b w hg; refine WO.fr ?_) | (refine op_box1 hg ?_; clear hg; intro b w hg; refine WO.fr ?_)
        | (refine op_store hg ?_; clear hg; intro w hg; refine WO.fr ?_; try simp only [List.set_cons_succ, List.set_cons_zero] at hg)
        | (refine op_storeA hg ?_; clear hg; intro w hg; refine WO.fr ?_; try simp only [over, List.take_zero, List.take_succ_cons, List.drop_zero, List.drop_succ_cons, List.nil_append, List.cons_append, List.append_nil, List.length_cons, List.length_nil, Nat.zero_add, Nat.reduceAdd, splice, cellsL] at hg)
        | (refine op_pure hg ?_; clear hg; intro w hg; refine WO.fr ?_) | (refine op_pureB hg ?_; clear hg; intro w hg c hc; cases c <;> refine WO.fr ?_))
      | ((with_reducible refine WO.gid ?_); first | refine WO.on rfl ?_ | refine WO.offN rfl rfl ?_))
    refine ret1 rfl ⟨?_, hg.drop⟩
    rcases placeI_cases l p with ⟨h1, _⟩ | ⟨k, y, _, h2, h3⟩
    · rw [h1]; rfl
    · exact absurd h3 (hno y (List.mem_of_getElem? h2))
  obtain ⟨bs, ks, rfl, _, hrow⟩ := hS.at (i := i) (r := l[i].enc) (by simp [hlt])
  have r1 : ∀ {w Fs}, Goes w0 [] Fs w → Cells w ⟨bs, ks + i * 10, none⟩ [.int .i64 l[i].kind, .int .i64 l[i].at', .int .i64 l[i].mode, .int .i64 l[i].tok.kind, .int .i64 l[i].tok.rule, .int .i64 l[i].tok.fr, .int .i64 l[i].tok.at', .int .i64 l[i].tok.to, .int .i64 l[i].tok.mode, .int .i64 l[i].most] := fun h => h.cellsOld hrow (by simp)
  clear hrow
  by_cases hp : l[i].at' = p
  · repeat' (first
      | with_reducible refine QX.next ?_ | with_reducible refine WC.seq ?_ | with_reducible refine WC.region ?_ | with_reducible refine WC.block ?_ | with_reducible refine QX.bnorm ?_ | with_reducible refine QX.bret ?_ | with_reducible refine QX.ret ?_ | with_reducible refine QX.exit ?_ | with_reducible refine QX.bsame ?_ | with_reducible refine QX.bother rfl ?_
      | with_reducible refine WO.nil ?_ | with_reducible refine WC.skip ?_ | with_reducible refine WC.ret ?_ | with_reducible refine WC.exit ?_ | ((with_reducible refine WC.id ?_); first | refine WC.condT rfl ?_ | refine WC.condF rfl ?_)
      | (refine WC.quietG hg ?_; clear hg) | ((with_reducible refine WQ.nilG ?_); intro w hg)
      | ((with_reducible refine WQ.cid ?_); first | refine WQ.xG ?_ | refine WQ.pure ?_)
      | ((with_reducible refine WQ.gid ?_); first | refine WQ.on rfl ?_ | refine WQ.offN rfl rfl ?_)
      | ((with_reducible refine WO.cid ?_); first
        | refine WO.x ?_ | (refine op_alloc hg ?_; clear hg; intro b w hg; refine WO.fr ?_) | (refine op_boxA hg ?_; clear hg; intro b w hg; refine WO.fr ?_) | (refine op_box1 hg ?_; clear hg; intro b w hg; refine WO.fr ?_)
        | (refine op_store hg ?_; clear hg; intro w hg; refine WO.fr ?_; try simp only [List.set_cons_succ, List.set_cons_zero] at hg)
        | (refine op_storeA hg ?_; clear hg; intro w hg; refine WO.fr ?_; try simp only [over, List.take_zero, List.take_succ_cons, List.drop_zero, List.drop_succ_cons, List.nil_append, List.cons_append, List.append_nil, List.length_cons, List.length_nil, Nat.zero_add, Nat.reduceAdd, splice, cellsL] at hg)
        | (refine op_pure hg ?_; clear hg; intro w hg; refine WO.fr ?_) | (refine op_pureB hg ?_; clear hg; intro w hg c hc; cases c <;> refine WO.fr ?_))
      | ((with_reducible refine WO.gid ?_); first | refine WO.on rfl ?_ | refine WO.offN rfl rfl ?_))
    refine ret1 rfl ⟨?_, hg.drop⟩
    have : l.findIdx? (atB p) = some i := List.findIdx?_eq_some_iff_getElem.2 ⟨hlt, by simp [atB, hp], fun j hj => by
      have := hno l[j] (List.mem_take_iff_getElem.2 ⟨j, by omega, rfl⟩)
      simp [atB, this]⟩
    simp only [placeI, this]
    rfl
  · repeat' (first
      | with_reducible refine QX.next ?_ | with_reducible refine WC.seq ?_ | with_reducible refine WC.region ?_ | with_reducible refine WC.block ?_ | with_reducible refine QX.bnorm ?_ | with_reducible refine QX.bret ?_ | with_reducible refine QX.ret ?_ | with_reducible refine QX.exit ?_ | with_reducible refine QX.bsame ?_ | with_reducible refine QX.bother rfl ?_
      | with_reducible refine WO.nil ?_ | with_reducible refine WC.skip ?_ | with_reducible refine WC.ret ?_ | with_reducible refine WC.exit ?_ | ((with_reducible refine WC.id ?_); first | refine WC.condT rfl ?_ | refine WC.condF rfl ?_)
      | (refine WC.quietG hg ?_; clear hg) | ((with_reducible refine WQ.nilG ?_); intro w hg)
      | ((with_reducible refine WQ.cid ?_); first | refine WQ.xG ?_ | refine WQ.pure ?_)
      | ((with_reducible refine WQ.gid ?_); first | refine WQ.on rfl ?_ | refine WQ.offN rfl rfl ?_)
      | ((with_reducible refine WO.cid ?_); first
        | refine WO.x ?_ | (refine op_alloc hg ?_; clear hg; intro b w hg; refine WO.fr ?_) | (refine op_boxA hg ?_; clear hg; intro b w hg; refine WO.fr ?_) | (refine op_box1 hg ?_; clear hg; intro b w hg; refine WO.fr ?_)
        | (refine op_store hg ?_; clear hg; intro w hg; refine WO.fr ?_; try simp only [List.set_cons_succ, List.set_cons_zero] at hg)
        | (refine op_storeA hg ?_; clear hg; intro w hg; refine WO.fr ?_; try simp only [over, List.take_zero, List.take_succ_cons, List.drop_zero, List.drop_succ_cons, List.nil_append, List.cons_append, List.append_nil, List.length_cons, List.length_nil, Nat.zero_add, Nat.reduceAdd, splice, cellsL] at hg)
        | (refine op_pure hg ?_; clear hg; intro w hg; refine WO.fr ?_) | (refine op_pureB hg ?_; clear hg; intro w hg c hc; cases c <;> refine WO.fr ?_))
      | ((with_reducible refine WO.gid ?_); first | refine WO.on rfl ?_ | refine WO.offN rfl rfl ?_))
    with_reducible refine QX.norm ?_
    refine hK _ _ _ ?_ ?_ ?_
    · simp only [setAll, List.map_cons, List.map_nil, gt, List.set_cons_succ, List.set_cons_zero]
    all_goals simp only [List.map_cons, List.map_nil, gt, intOf]
    · refine ⟨i + 1, trivial, rfl, hlt, fun y hy => ?_, hg.drop⟩
      rw [List.take_succ_eq_append_getElem hlt] at hy
      rcases List.mem_append.1 hy with h | h
      · exact hno y h
      · obtain rfl := List.mem_singleton.1 h
        exact hp
    · omega
end Go.Proofs.Ytdjepfpmoeecaaa
