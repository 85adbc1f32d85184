/- Maps from int to values of any kind. -/
import Derived.Test.YtdjepfpmoeecaaaLoops
import Derived.MapKept
namespace Go.Proofs.Ytdjepfpmoeecaaa
open Go Go.RowKit
set_option linter.unusedSimpArgs false
set_option linter.unusedVariables false

/-- A map's object, as a list of keys and values. -/
structure MapIs {V : Type} (val : V → Value) (es : Array MapEntry) (clock : Nat) (m : List (Int × V)) : Prop where
  out : es.toList.map (fun e => (e.key, e.val)) = m.map fun p => (Value.int .i64 p.1, val p.2)
  st : MapKept.Stamped es clock

variable {V : Type} {val : V → Value}
def mget : List (Int × V) → Int → Option V
  | [], _ => none
  | p :: m, k => if p.1 = k then some p.2 else mget m k
def mset : List (Int × V) → Int → V → List (Int × V)
  | [], k, v => [(k, v)]
  | p :: m, k, v => if p.1 = k then (k, v) :: m else p :: mset m k v
def mdel : List (Int × V) → Int → List (Int × V)
  | [], _ => []
  | p :: m, k => if p.1 = k then m else p :: mdel m k
def mkeys (m : List (Int × V)) : List Int := m.map (·.1)

theorem mget_none {m : List (Int × V)} {k : Int} (h : k ∉ mkeys m) : mget m k = none := by
  induction m with
  | nil => rfl
  | cons p m ih =>
    simp only [mkeys, List.map_cons, List.mem_cons, not_or] at h
    rw [mget, if_neg (fun e => h.1 e.symm)]
    exact ih h.2
theorem mget_mset (m : List (Int × V)) (k : Int) (v : V) (k' : Int) : mget (mset m k v) k' = if k = k' then some v else mget m k' := by
  induction m with
  | nil => simp only [mset, mget]
  | cons p m ih =>
    rw [mset]
    split
    · rename_i hp
      rw [mget, mget]
      by_cases hk : k = k'
      · simp [hk]
      · rw [if_neg hk, if_neg hk, if_neg (by rw [hp]; exact hk)]
    · rename_i hp
      rw [mget, ih, mget]
      by_cases hk : k = k'
      · subst hk; simp [hp]
      · by_cases hp' : p.1 = k' <;> simp [hk, hp']
theorem mget_mdel (m : List (Int × V)) (k k' : Int) (hn : (mkeys m).Nodup) : mget (mdel m k) k' = if k = k' then none else mget m k' := by
  induction m with
  | nil => simp [mdel, mget]
  | cons p m ih =>
    simp only [mkeys, List.map_cons, List.nodup_cons] at hn
    rw [mdel]
    split
    · rename_i hp
      by_cases hk : k = k'
      · rw [if_pos hk, ← hk]; exact mget_none (by rw [← hp]; exact hn.1)
      · rw [if_neg hk, mget, if_neg (by rw [hp]; exact hk)]
    · rename_i hp
      rw [mget, ih hn.2, mget]
      by_cases hk : k = k'
      · subst hk; simp [hp]
      · by_cases hp' : p.1 = k' <;> simp [hk, hp']
theorem mkeys_mset_mem (m : List (Int × V)) (k : Int) (v : V) (x : Int) : x ∈ mkeys (mset m k v) ↔ x = k ∨ x ∈ mkeys m := by
  induction m with
  | nil => simp [mset, mkeys]
  | cons p m ih =>
    rw [mset]
    split
    · rename_i hp; simp [mkeys, hp]
    · simp only [mkeys, List.map_cons, List.mem_cons] at ih ⊢
      rw [ih]
      constructor
      · rintro (h | h | h) <;> simp [h]
      · rintro (h | h | h) <;> simp [h]

/-- What the search in a map's entries finds. -/
theorem findNow_int (k : Int) : ∀ (l : List MapEntry) (m : List (Int × V)) (i : Nat), l.map (fun e => (e.key, e.val)) = m.map (fun p => (Value.int .i64 p.1, val p.2)) →
    (Instr.findNow (.int .i64) (.int .i64 k) l i = some none ∧ mget m k = none ∧ (∀ v, mset m k v = m ++ [(k, v)]) ∧ mdel m k = m ∧ ∀ x ∈ l, x.key ≠ .int .i64 k) ∨
    ∃ j x e, Instr.findNow (.int .i64) (.int .i64 k) l i = some (some (i + j, val x)) ∧ mget m k = some x ∧ l[j]? = some e ∧ e.key = .int .i64 k ∧ e.val = val x ∧ (∀ v, mset m k v = m.set j (k, v)) ∧ mdel m k = m.eraseIdx j
  | [], m, i, h => by
    obtain rfl : m = [] := by simpa using h.symm
    exact .inl ⟨rfl, rfl, fun _ => rfl, rfl, by simp⟩
  | e :: l, [], i, h => by simp at h
  | e :: l, p :: m, i, h => by
    simp only [List.map_cons, List.cons.injEq, Prod.mk.injEq] at h
    obtain ⟨⟨hk, hv⟩, ht⟩ := h
    by_cases hp : p.1 = k
    · subst hp
      exact .inr ⟨0, p.2, e, by simp [Instr.findNow, Instr.sameNow, hk, hv], by simp [mget], rfl, hk, hv, by simp [mset], by simp [mdel]⟩
    · have hne : (k == p.1) = false := by simpa using fun h => hp h.symm
      rcases findNow_int k l m (i + 1) ht with ⟨h1, h2, h3, h4, h5⟩ | ⟨j, x, e', h1, h2, h3, h4, h5, h6, h7⟩
      · refine .inl ⟨by simp [Instr.findNow, Instr.sameNow, hk, hne, h1], by simp [mget, hp, h2], fun v => by simp [mset, hp, h3], by simp [mdel, hp, h4], ?_⟩
        intro x hx
        rcases List.mem_cons.1 hx with rfl | hx
        · rw [hk]; simpa using hp
        · exact h5 x hx
      · exact .inr ⟨j + 1, x, e', by simp [Instr.findNow, Instr.sameNow, hk, hne, h1]; omega, by simp [mget, hp, h2], by simpa using h3, h4, h5, fun v => by simp [mset, hp, h6], by simp [mdel, hp, h7]⟩

theorem MapIs.empty (clock : Nat) : MapIs val #[] clock [] := ⟨rfl, MapKept.stamped_empty clock⟩
theorem MapIs.nodup {es : Array MapEntry} {clock : Nat} {m : List (Int × V)} (h : MapIs val es clock m) : (mkeys m).Nodup := by
  have h1 := h.st.2.2
  have h2 : es.toList.map (·.key) = (mkeys m).map (Value.int .i64 ·) := by
    have := congrArg (List.map Prod.fst) h.out
    simpa [mkeys, List.map_map, Function.comp_def] using this
  rw [h2] at h1
  exact (List.pairwise_map.1 h1).imp (fun hne e => hne (by rw [e]))

section
variable {P : Program} {r : Option Nat} {Q : Exit → Act → World → Prop} {l l' : List Value} {d : List Deferred} {w w' w0 : World} {M : List Nat} {Fs Fs' : List Frag}
variable {ops : Array Oper} {os : List Oper} {dst : Option Tmp} {ty : TypeId} {pos : String} {af : Array Edge} {v : Value}
variable {t kt et : TypeId} {x y z : Operand} {b clock : Nat} {es : Array MapEntry} {m : List (Int × V)} {k : Int} {u : V}

theorem Goes.mapAt {es : Array MapEntry} (hg : Goes w0 M ([(b, .map es clock)] :: Fs) w) : w.heap[b]? = some (.map es clock) := hg.own (b, .map es clock) (by simp)

theorem op_makeMap {rs : Option Operand} (hg : Goes w0 M Fs w) (h : ∀ b w', Goes w0 M ([(b, .map #[] 0)] :: Fs) w' → WO P r ops Q os (put l dst (.map (some b))) d w') (hr : rs = none := by exact rfl) :
    WO P r ops Q (⟨dst, .makeMap t rs, ty, pos, af, none⟩ :: os) l d w := by
  subst hr
  refine WO.val (by simp) ?_ rfl (h w.heap.size _ (hg.alloc _))
  rfl

theorem x_lookupOk {zv : Value} [H : Und P t (.map kt et)] [HK : Und P kt (.int .i64)] (hb : w.heap[b]? = some (.map es clock)) (hM : MapIs val es clock m) (hx : ev l x = .map (some b) := by first | (simp only [ev, gt, put, List.set_cons_succ, List.set_cons_zero, Nat.zero_add, Nat.add_zero, Nat.mul_one, Nat.reduceAdd, Nat.reduceMul, Int.toNat_natCast, Int.reduceToNat, List.map_cons, List.map_nil, List.cons_append, List.nil_append]; exact rfl) | simp only [ev, gt, put, List.set_cons_succ, List.set_cons_zero, Nat.zero_add, Nat.add_zero, Nat.mul_one, Nat.reduceAdd, Nat.reduceMul, Int.toNat_natCast, Int.reduceToNat, List.map_cons, List.map_nil, List.cons_append, List.nil_append]) (hy : ev l y = .int .i64 k := by first | (simp only [ev, gt, put, List.set_cons_succ, List.set_cons_zero, Nat.zero_add, Nat.add_zero, Nat.mul_one, Nat.reduceAdd, Nat.reduceMul, Int.toNat_natCast, Int.reduceToNat, List.map_cons, List.map_nil, List.cons_append, List.nil_append]; exact rfl) | simp only [ev, gt, put, List.set_cons_succ, List.set_cons_zero, Nat.zero_add, Nat.add_zero, Nat.mul_one, Nat.reduceAdd, Nat.reduceMul, Int.toNat_natCast, Int.reduceToNat, List.map_cons, List.map_nil, List.cons_append, List.nil_append])
    (hz : (P.info? et).bind (·.zero) = some zv := by kernel_rfl) :
    Runs P l (.lookup t x y true) ty w (.tuple #[((mget m k).map val).getD zv, .bool (mget m k).isSome]) := by
  refine ⟨by simp, fun d dst pos af => ?_⟩
  have hck := MapKept.run_checkKey (P := P) (w := w) (k := .int .i64 k) HK.out (by simp [MapKept.IsKey])
  have hzr : (zeroValue et).run P w = .ok zv w := by
    cases hi : P.info? et with
    | none => simp [hi] at hz
    | some i =>
      simp [hi] at hz
      simp [zeroValue, typeInfo, hi, hz]
  rcases findNow_int k es.toList m 0 hM.out with ⟨h1, h2, _⟩ | ⟨j, u, e, h1, h2, _⟩
  · have hf := MapKept.run_findKey (P := P) (w := w) HK.out h1
    simp [execOp, Instr.lookup, St_eval, hx, hy, run_underlying H.out, MapKept.run_getObj_map hb, hck, hf, hzr, h2]
  · have hf := MapKept.run_findKey (P := P) (w := w) HK.out h1
    simp [execOp, Instr.lookup, St_eval, hx, hy, run_underlying H.out, MapKept.run_getObj_map hb, hck, hf, h2]
theorem x_lookup {zv : Value} [H : Und P t (.map kt et)] [HK : Und P kt (.int .i64)] (hb : w.heap[b]? = some (.map es clock)) (hM : MapIs val es clock m) (hx : ev l x = .map (some b) := by first | (simp only [ev, gt, put, List.set_cons_succ, List.set_cons_zero, Nat.zero_add, Nat.add_zero, Nat.mul_one, Nat.reduceAdd, Nat.reduceMul, Int.toNat_natCast, Int.reduceToNat, List.map_cons, List.map_nil, List.cons_append, List.nil_append]; exact rfl) | simp only [ev, gt, put, List.set_cons_succ, List.set_cons_zero, Nat.zero_add, Nat.add_zero, Nat.mul_one, Nat.reduceAdd, Nat.reduceMul, Int.toNat_natCast, Int.reduceToNat, List.map_cons, List.map_nil, List.cons_append, List.nil_append]) (hy : ev l y = .int .i64 k := by first | (simp only [ev, gt, put, List.set_cons_succ, List.set_cons_zero, Nat.zero_add, Nat.add_zero, Nat.mul_one, Nat.reduceAdd, Nat.reduceMul, Int.toNat_natCast, Int.reduceToNat, List.map_cons, List.map_nil, List.cons_append, List.nil_append]; exact rfl) | simp only [ev, gt, put, List.set_cons_succ, List.set_cons_zero, Nat.zero_add, Nat.add_zero, Nat.mul_one, Nat.reduceAdd, Nat.reduceMul, Int.toNat_natCast, Int.reduceToNat, List.map_cons, List.map_nil, List.cons_append, List.nil_append])
    (hz : (P.info? et).bind (·.zero) = some zv := by kernel_rfl) :
    Runs P l (.lookup t x y false) ty w (((mget m k).map val).getD zv) := by
  refine ⟨by simp, fun d dst pos af => ?_⟩
  have hck := MapKept.run_checkKey (P := P) (w := w) (k := .int .i64 k) HK.out (by simp [MapKept.IsKey])
  have hzr : (zeroValue et).run P w = .ok zv w := by
    cases hi : P.info? et with
    | none => simp [hi] at hz
    | some i =>
      simp [hi] at hz
      simp [zeroValue, typeInfo, hi, hz]
  rcases findNow_int k es.toList m 0 hM.out with ⟨h1, h2, _⟩ | ⟨j, u, e, h1, h2, _⟩
  · have hf := MapKept.run_findKey (P := P) (w := w) HK.out h1
    simp [execOp, Instr.lookup, St_eval, hx, hy, run_underlying H.out, MapKept.run_getObj_map hb, hck, hf, hzr, h2]
  · have hf := MapKept.run_findKey (P := P) (w := w) HK.out h1
    simp [execOp, Instr.lookup, St_eval, hx, hy, run_underlying H.out, MapKept.run_getObj_map hb, hck, hf, h2]

theorem map_eraseIdx {α β : Type} (f : α → β) : ∀ (l : List α) (j : Nat), (l.eraseIdx j).map f = (l.map f).eraseIdx j
  | [], _ => rfl
  | _ :: _, 0 => rfl
  | a :: l, j + 1 => by simp [map_eraseIdx f l j]
theorem set_map {α β : Type} (f : α → β) (l : List α) (j : Nat) (a : α) : (l.set j a).map f = (l.map f).set j (f a) := List.map_set

theorem MapIs.modify {j : Nat} {e : MapEntry} {p : Int × V} (h : MapIs val es clock m) (he : es.toList[j]? = some e) (hk : e.key = .int .i64 p.1) : MapIs val (es.modify j fun e => { e with key := .int .i64 p.1, val := val p.2 }) clock (m.set j p) := by
  refine ⟨?_, MapKept.stamped_modify h.st j _ (by simp) (fun q _ hq2 => ?_)⟩
  · rw [set_map, ← h.out]
    apply List.ext_getElem?
    intro i
    simp only [List.getElem?_map, Array.getElem?_toList, Array.getElem?_modify, List.getElem?_set, List.length_map, Array.length_toList]
    have hlt := (List.getElem?_eq_some_iff.1 he).1
    simp only [Array.length_toList] at hlt
    by_cases hij : j = i
    · subst hij; simp [hlt]
    · simp [hij]
  · rw [Array.getElem?_toList] at he
    rw [he] at hq2
    obtain rfl := Option.some.inj hq2
    exact hk.symm
theorem MapIs.push (h : MapIs val es clock m) (hn : ∀ x ∈ es.toList, x.key ≠ .int .i64 k) : MapIs val (es.push { key := .int .i64 k, val := val u, born := clock }) (clock + 1) (m ++ [(k, u)]) :=
  ⟨by simp [h.out], MapKept.stamped_push h.st hn⟩
theorem MapIs.erase {j : Nat} (h : MapIs val es clock m) : MapIs val (es.eraseIdxIfInBounds j) clock (m.eraseIdx j) := by
  refine ⟨?_, MapKept.stamped_erase h.st j⟩
  have e1 : ∀ (l : List MapEntry), (l.eraseIdx j).map (fun e => (e.key, e.val)) = (l.map (fun e => (e.key, e.val))).eraseIdx j := fun l => map_eraseIdx _ _ j
  have e2 : (m.eraseIdx j).map (fun p => (Value.int .i64 p.1, val p.2)) = (m.map fun p => (Value.int .i64 p.1, val p.2)).eraseIdx j := map_eraseIdx _ _ j
  rw [e2, ← h.out, ← e1]
  unfold Array.eraseIdxIfInBounds
  split
  · simp
  · rw [List.eraseIdx_of_length_le (by simp; omega)]

theorem op_mapUpdate [H : Und P t (.map kt et)] [HK : Und P kt (.int .i64)] (hg : Goes w0 M ([(b, .map es clock)] :: Fs) w) (hM : MapIs val es clock m)
    (h : ∀ es' clock' w', MapIs val es' clock' (mset m k u) → Goes w0 M ([(b, .map es' clock')] :: Fs) w' → WO P r ops Q os (put l dst undef) d w')
    (hx : ev l x = .map (some b) := by first | (simp only [ev, gt, put, List.set_cons_succ, List.set_cons_zero, Nat.zero_add, Nat.add_zero, Nat.mul_one, Nat.reduceAdd, Nat.reduceMul, Int.toNat_natCast, Int.reduceToNat, List.map_cons, List.map_nil, List.cons_append, List.nil_append]; exact rfl) | simp only [ev, gt, put, List.set_cons_succ, List.set_cons_zero, Nat.zero_add, Nat.add_zero, Nat.mul_one, Nat.reduceAdd, Nat.reduceMul, Int.toNat_natCast, Int.reduceToNat, List.map_cons, List.map_nil, List.cons_append, List.nil_append]) (hy : ev l y = .int .i64 k := by first | (simp only [ev, gt, put, List.set_cons_succ, List.set_cons_zero, Nat.zero_add, Nat.add_zero, Nat.mul_one, Nat.reduceAdd, Nat.reduceMul, Int.toNat_natCast, Int.reduceToNat, List.map_cons, List.map_nil, List.cons_append, List.nil_append]; exact rfl) | simp only [ev, gt, put, List.set_cons_succ, List.set_cons_zero, Nat.zero_add, Nat.add_zero, Nat.mul_one, Nat.reduceAdd, Nat.reduceMul, Int.toNat_natCast, Int.reduceToNat, List.map_cons, List.map_nil, List.cons_append, List.nil_append]) (hz : ev l z = val u := by first | (simp only [ev, gt, put, List.set_cons_succ, List.set_cons_zero, Nat.zero_add, Nat.add_zero, Nat.mul_one, Nat.reduceAdd, Nat.reduceMul, Int.toNat_natCast, Int.reduceToNat, List.map_cons, List.map_nil, List.cons_append, List.nil_append]; exact rfl) | simp only [ev, gt, put, List.set_cons_succ, List.set_cons_zero, Nat.zero_add, Nat.add_zero, Nat.mul_one, Nat.reduceAdd, Nat.reduceMul, Int.toNat_natCast, Int.reduceToNat, List.map_cons, List.map_nil, List.cons_append, List.nil_append]) :
    WO P r ops Q (⟨dst, .mapUpdate t x y z, ty, pos, af, none⟩ :: os) l d w := by
  have hb := hg.mapAt
  have hck := MapKept.run_checkKey (P := P) (w := w) (k := .int .i64 k) HK.out (by simp [MapKept.IsKey])
  rcases findNow_int k es.toList m 0 hM.out with ⟨h1, h2, h3, _, h5⟩ | ⟨j, u', e, h1, h2, h3, h4, _, h6, _⟩
  · have hf := MapKept.run_findKey (P := P) (w := w) HK.out h1
    refine WO.skp (by simp) ?_ rfl (h _ _ _ (h3 u ▸ hM.push h5) (Turn.putObj (o' := .map (es.push { key := .int .i64 k, val := val u, born := clock }) (clock + 1)) .here hg))
    simp [execOp, Instr.mapUpdate, St_eval, hx, hy, hz, run_underlying H.out, MapKept.run_getObj_map hb, hck, hf, MapKept.run_setObj_map _ hb, World.putObj]
  · have hf := MapKept.run_findKey (P := P) (w := w) HK.out h1
    have hks := MapKept.run_keyThatStays (P := P) (w := w) (d := .int .i64) (k := .int .i64 k) (by simp [MapKept.IsKey])
    rw [Array.getElem?_toList] at h3
    refine WO.skp (by simp) ?_ rfl (h _ _ _ (h6 u ▸ hM.modify (p := (k, u)) (by rw [Array.getElem?_toList]; exact h3) h4) (Turn.putObj (o' := .map (es.modify j fun e => { e with key := .int .i64 k, val := val u }) clock) .here hg))
    simp [execOp, Instr.mapUpdate, St_eval, hx, hy, hz, run_underlying H.out, MapKept.run_getObj_map hb, hck, hf, h3, h4, hks, MapKept.run_setObj_map _ hb, World.putObj]

theorem op_delete {t' : TypeId} [H : Und P t (.map kt et)] [HK : Und P kt (.int .i64)] (hg : Goes w0 M ([(b, .map es clock)] :: Fs) w) (hM : MapIs val es clock m)
    (h : ∀ es' w', MapIs val es' clock (mdel m k) → Goes w0 M ([(b, .map es' clock)] :: Fs) w' → WO P r ops Q os (put l dst (.tuple #[])) d w')
    (hx : ev l x = .map (some b) := by first | (simp only [ev, gt, put, List.set_cons_succ, List.set_cons_zero, Nat.zero_add, Nat.add_zero, Nat.mul_one, Nat.reduceAdd, Nat.reduceMul, Int.toNat_natCast, Int.reduceToNat, List.map_cons, List.map_nil, List.cons_append, List.nil_append]; exact rfl) | simp only [ev, gt, put, List.set_cons_succ, List.set_cons_zero, Nat.zero_add, Nat.add_zero, Nat.mul_one, Nat.reduceAdd, Nat.reduceMul, Int.toNat_natCast, Int.reduceToNat, List.map_cons, List.map_nil, List.cons_append, List.nil_append]) (hy : ev l y = .int .i64 k := by first | (simp only [ev, gt, put, List.set_cons_succ, List.set_cons_zero, Nat.zero_add, Nat.add_zero, Nat.mul_one, Nat.reduceAdd, Nat.reduceMul, Int.toNat_natCast, Int.reduceToNat, List.map_cons, List.map_nil, List.cons_append, List.nil_append]; exact rfl) | simp only [ev, gt, put, List.set_cons_succ, List.set_cons_zero, Nat.zero_add, Nat.add_zero, Nat.mul_one, Nat.reduceAdd, Nat.reduceMul, Int.toNat_natCast, Int.reduceToNat, List.map_cons, List.map_nil, List.cons_append, List.nil_append]) :
    WO P r ops Q (⟨dst, .call { callee := .builtin .delete, args := #[x, y], argTypes := #[t, t'] }, ty, pos, af, none⟩ :: os) l d w := by
  have hb := hg.mapAt
  have hck := MapKept.run_checkKey (P := P) (w := w) (k := .int .i64 k) HK.out (by simp [MapKept.IsKey])
  rcases findNow_int k es.toList m 0 hM.out with ⟨h1, h2, h3, h4, h5⟩ | ⟨j, u', e, h1, h2, h3, h4, _, h6, h7⟩
  · have hf := MapKept.run_findKey (P := P) (w := w) HK.out h1
    refine WO.val (by simp) ?_ rfl (h _ _ (h4.symm ▸ hM) (Turn.putObj (o' := .map es clock) .here hg))
    simp [execOp, resolve, invoke, builtin, Builtin.delete_, St_eval, hx, hy, run_underlying H.out, MapKept.run_getObj_map hb, hck, hf, MapKept.run_setObj_map _ hb, World.putObj]
  · have hf := MapKept.run_findKey (P := P) (w := w) HK.out h1
    refine WO.val (by simp) ?_ rfl (h _ _ (h7 ▸ hM.erase (j := j)) (Turn.putObj (o' := .map (es.eraseIdxIfInBounds j) clock) .here hg))
    simp [execOp, resolve, invoke, builtin, Builtin.delete_, St_eval, hx, hy, run_underlying H.out, MapKept.run_getObj_map hb, hck, hf, MapKept.run_setObj_map _ hb, World.putObj]
end
end Go.Proofs.Ytdjepfpmoeecaaa
