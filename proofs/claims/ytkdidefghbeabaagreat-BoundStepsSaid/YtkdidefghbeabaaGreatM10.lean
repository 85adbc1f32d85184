/- Push and Pop of Go's container/heap, over the cache's places. Maps from int to values of any kind. The cache: as it lies; New, made, Len, Room, Least. -/
import Derived.Test.YtkdidefghbeabaaGreatM09
import Derived.Test.YtkdidefghbeabaaGreatM04
import Derived.MapKept
namespace Go.Proofs.YtkdidefghbeabaaGreat
open Go Go.RowKit
set_option maxRecDepth 10000
set_option linter.unusedSimpArgs false
set_option linter.unusedVariables false

set_option maxHeartbeats 1000000 in
theorem mPush_spec {ph : Nat} {h : List Int} {f : Frag} {w0 : World} (x : Int) (hO : Owns w0 f) (hF : HeapF ph h f) (hn : h.length ≤ 1000000) :
    Calls Tryz.prog 171 #[.pointer (some ⟨ph, 0, none⟩), .iface 3 (.int .i64 x)] w0 fun e w' => ∃ f', (∃ v, e = .returned v) ∧ HeapF ph (h ++ [x]) f' ∧ Goes w0 (keys f) [f'] w' := by
  obtain ⟨ah, ch, fh, rfl, hW⟩ := hF
  have hg := hO.goes.perm (Fs' := [[(ph, .cells [.slice ah h.length ch].toArray 142 (0, 0))], fh]) (by simp)
  refine enter Tryz.func171 rfl (by simp only [Tryz.ntmps171, List.length_cons, List.length_nil, Nat.reduceAdd, Nat.reduceSub, List.replicate_succ, List.replicate_zero, List.cons_append, List.nil_append]; exact rfl) ?_
  repeat' (first | refine zN ?_ | (refine WC.quietG hg ?_; clear hg) | ((with_reducible refine WQ.nilG ?_); intro w hg) | (refine zB ?_; clear hg; intro b w hg; refine WO.fr ?_) | (refine zW ?_; clear hg; intro w hg; refine WO.fr ?_) | (refine op_pureB hg ?_; clear hg; intro w hg c hc; cases c <;> refine WO.fr ?_))
  refine WO.x ?_ (hx := x_assertInt)
  repeat' (first | refine zN ?_ | (refine WC.quietG hg ?_; clear hg) | ((with_reducible refine WQ.nilG ?_); intro w hg) | (refine zB ?_; clear hg; intro b w hg; refine WO.fr ?_) | (refine zW ?_; clear hg; intro w hg; refine WO.fr ?_) | (refine op_pureB hg ?_; clear hg; intro w hg c hc; cases c <;> refine WO.fr ?_))
  refine op_build1 hg ?_
  clear hg
  intro b3 w hg
  refine WO.fr ?_
  repeat' (first | refine zN ?_ | (refine WC.quietG hg ?_; clear hg) | ((with_reducible refine WQ.nilG ?_); intro w hg) | (refine zB ?_; clear hg; intro b w hg; refine WO.fr ?_) | (refine zW ?_; clear hg; intro w hg; refine WO.fr ?_) | (refine op_pureB hg ?_; clear hg; intro w hg c hc; cases c <;> refine WO.fr ?_))
  refine op_append (hg.front 2) hW (Goes.src1 (hg.front 0) Und.out rfl rfl) ?_
  clear hg
  intro a' cap' f' w hW' hg
  refine WO.fr ?_
  repeat' (first | refine zN ?_ | (refine WC.quietG hg ?_; clear hg) | ((with_reducible refine WQ.nilG ?_); intro w hg) | (refine zB ?_; clear hg; intro b w hg; refine WO.fr ?_) | (refine zW ?_; clear hg; intro w hg; refine WO.fr ?_) | (refine op_pureB hg ?_; clear hg; intro w hg c hc; cases c <;> refine WO.fr ?_))
  refine end0 rfl ⟨_, ⟨_, rfl⟩, ⟨a', cap', f', rfl, ?_⟩, ?_⟩
  · have e1 : (h ++ [x]).length = h.length + 1 := by simp
    rw [e1]
    simpa [encI] using hW'
  · have e1 : (h ++ [x]).length = h.length + 1 := by simp
    rw [e1]
    exact (hg.front 2).join.sub (by simp)

theorem getD_last (h : List Int) (x : Int) : (h ++ [x]).getD h.length 0 = x := by simp [List.getD_eq_getElem?_getD]

set_option maxHeartbeats 1000000 in
theorem mPop_spec {ph : Nat} {h0 : List Int} {x : Int} {f : Frag} {w0 : World} (hO : Owns w0 f) (hF : HeapF ph (h0 ++ [x]) f) (hn : h0.length ≤ 1000000) :
    Calls Tryz.prog 170 #[.pointer (some ⟨ph, 0, none⟩)] w0 fun e w' => ∃ f', e = .returned (.iface 3 (.int .i64 x)) ∧ HeapF ph h0 f' ∧ Goes w0 (keys f) [f'] w' := by
  obtain ⟨ah, ch, fh, rfl, hW⟩ := hF
  have e1 : (h0 ++ [x]).length = h0.length + 1 := by simp
  obtain ⟨g, cur, rfl, rfl, h1, h2, h3, htk⟩ := hW.inv (by omega)
  have kx := ints_get htk h0.length (by omega)
  rw [getD_last] at kx
  have hg := hO.goes.perm (Fs' := [[(ph, .cells [.slice (some ⟨g, 0, none⟩) (h0 ++ [x]).length ch].toArray 142 (0, 0))], [(g, .cells cur.toArray 3 (0, 0))]]) (by simp)
  rw [e1] at hg
  have e2 : h0.length + 1 ≤ ch := by omega
  refine enter Tryz.func170 rfl (by simp only [Tryz.ntmps170, List.length_cons, List.length_nil, Nat.reduceAdd, Nat.reduceSub, List.replicate_succ, List.replicate_zero, List.cons_append, List.nil_append]; exact rfl) ?_
  repeat' (first | refine zN ?_ | (refine WC.quietG hg ?_; clear hg) | ((with_reducible refine WQ.nilG ?_); intro w hg) | (refine zB ?_; clear hg; intro b w hg; refine WO.fr ?_) | (refine zW ?_; clear hg; intro w hg; refine WO.fr ?_) | (refine op_pureB hg ?_; clear hg; intro w hg c hc; cases c <;> refine WO.fr ?_))
  rw [show ((h0.length + 1 : Nat) : Int) - 1 = (h0.length : Nat) from by omega]
  refine WO.fr ?_
  repeat' (first | refine zN ?_ | (refine WC.quietG hg ?_; clear hg) | ((with_reducible refine WQ.nilG ?_); intro w hg) | (refine zB ?_; clear hg; intro b w hg; refine WO.fr ?_) | (refine zW ?_; clear hg; intro w hg; refine WO.fr ?_) | (refine op_pureB hg ?_; clear hg; intro w hg c hc; cases c <;> refine WO.fr ?_))
  refine op_mkIface ?_
  refine WO.fr ?_
  repeat' (first | refine zN ?_ | (refine WC.quietG hg ?_; clear hg) | ((with_reducible refine WQ.nilG ?_); intro w hg) | (refine zB ?_; clear hg; intro b w hg; refine WO.fr ?_) | (refine zW ?_; clear hg; intro w hg; refine WO.fr ?_) | (refine op_pureB hg ?_; clear hg; intro w hg c hc; cases c <;> refine WO.fr ?_))
  refine ret1 rfl ⟨_, rfl, ⟨some ⟨g, 0, none⟩, ch, _, rfl, .row (by omega) h2 h3 ?_⟩, hg.join⟩
  have ht2 : cur.take (h0.length * 1) = (cur.take ((h0 ++ [x]).length * 1)).take (h0.length * 1) := by
    rw [List.take_take]
    congr 1
    omega
  rw [ht2, htk, ints_flat, ints_flat, List.map_append]
  have : h0.length * 1 = (h0.map (Value.int .i64 ·)).length := by simp
  rw [this, List.take_left]

set_option maxHeartbeats 1000000 in
theorem hPush_spec {ph : Nat} {h : List Int} {f : Frag} {w0 : World} (x : Int) (hO : Owns w0 f) (hF : HeapF ph h f) (hH : Hp h h.length) (hn : h.length ≤ 900000) :
    Calls Tryz.prog 130 #[.iface 141 (.pointer (some ⟨ph, 0, none⟩)), .iface 3 (.int .i64 x)] w0 fun e w' => ∃ h' f', (∃ v, e = .returned v) ∧ HeapF ph h' f' ∧ h'.Perm (h ++ [x]) ∧ Hp h' h'.length ∧ Goes w0 (keys f) [f'] w' := by
  have hg := hO.goes
  have e1 : (h ++ [x]).length = h.length + 1 := by simp
  refine enter Tryz.func130 rfl (by simp only [Tryz.ntmps130, List.length_cons, List.length_nil, Nat.reduceAdd, Nat.reduceSub, List.replicate_succ, List.replicate_zero, List.cons_append, List.nil_append]; exact rfl) ?_
  repeat' (first | refine zN ?_ | (refine WC.quietG hg ?_; clear hg) | ((with_reducible refine WQ.nilG ?_); intro w hg) | (refine zB ?_; clear hg; intro b w hg; refine WO.fr ?_) | (refine zW ?_; clear hg; intro w hg; refine WO.fr ?_) | (refine op_pureB hg ?_; clear hg; intro w hg c hc; cases c <;> refine WO.fr ?_))
  refine op_invokeP (mPush_spec x hg.owns1 hF (by omega)) ?_
  rintro _ w2 ⟨f2, ⟨v, rfl⟩, hF2, hg2⟩
  replace hg := hg.callF hg2
  clear hg2 hF
  refine ⟨_, rfl, ?_⟩
  refine WO.fr ?_
  repeat' (first | refine zN ?_ | (refine WC.quietG hg ?_; clear hg) | ((with_reducible refine WQ.nilG ?_); intro w hg) | (refine zB ?_; clear hg; intro b w hg; refine WO.fr ?_) | (refine zW ?_; clear hg; intro w hg; refine WO.fr ?_) | (refine op_pureB hg ?_; clear hg; intro w hg c hc; cases c <;> refine WO.fr ?_))
  obtain ⟨ah, ch, fh, rfl, hW⟩ := hF2
  have hown : ∀ {w : World}, Goes w0 (keys f) [[(ph, .cells [.slice ah (h ++ [x]).length ch].toArray 142 (0, 0))] ++ fh] w → w.cell? ⟨ph, 0, none⟩ = some (.slice ah (h ++ [x]).length ch) := fun hg => heap_cell (hg.own (ph, .cells [.slice ah (h ++ [x]).length ch].toArray 142 (0, 0)) (by simp)) rfl
  refine op_invokeV (hown hg) (Len_spec _ ah _ ch) ?_
  rintro _ w3 ⟨rfl, hg2⟩
  replace hg := hg.call00 hg2
  clear hg2
  refine ⟨_, rfl, ?_⟩
  refine WO.fr ?_
  repeat' (first | refine zN ?_ | (refine WC.quietG hg ?_; clear hg) | ((with_reducible refine WQ.nilG ?_); intro w hg) | (refine zB ?_; clear hg; intro b w hg; refine WO.fr ?_) | (refine zW ?_; clear hg; intro w hg; refine WO.fr ?_) | (refine op_pureB hg ?_; clear hg; intro w hg c hc; cases c <;> refine WO.fr ?_))
  rw [show (((h ++ [x]).length : Nat) : Int) - 1 = (h.length : Nat) from by omega]
  refine op_call (up_spec h.length hg.owns1 ⟨ah, ch, fh, rfl, hW⟩ (by rw [e1]; exact HpUp.start hH x rfl) (by omega) (by omega)) ?_
  rintro _ w4 ⟨h', f', ⟨v2, rfl⟩, hF', hp, hH', hg2⟩
  replace hg := hg.callF hg2
  clear hg2
  refine ⟨_, rfl, ?_⟩
  refine WO.fr ?_
  repeat' (first | refine zN ?_ | (refine WC.quietG hg ?_; clear hg) | ((with_reducible refine WQ.nilG ?_); intro w hg) | (refine zB ?_; clear hg; intro b w hg; refine WO.fr ?_) | (refine zW ?_; clear hg; intro w hg; refine WO.fr ?_) | (refine op_pureB hg ?_; clear hg; intro w hg c hc; cases c <;> refine WO.fr ?_))
  exact end0 rfl ⟨h', f', ⟨_, rfl⟩, hF', hp, hH', hg⟩

set_option maxHeartbeats 1000000 in
theorem hPop_spec {ph : Nat} {h : List Int} {f : Frag} {w0 : World} (hO : Owns w0 f) (hF : HeapF ph h f) (hH : Hp h h.length) (hne : 0 < h.length) (hn : h.length ≤ 900000) :
    Calls Tryz.prog 106 #[.iface 141 (.pointer (some ⟨ph, 0, none⟩))] w0 fun e w' => ∃ h' f', (∃ v, e = .returned v) ∧ HeapF ph h' f' ∧ (h' ++ [h.getD 0 0]).Perm h ∧ Hp h' h'.length ∧ Goes w0 (keys f) [f'] w' := by
  have hg := hO.goes
  obtain ⟨n, hnn⟩ : ∃ n, h.length = n + 1 := ⟨h.length - 1, by omega⟩
  obtain ⟨ah, ch, fh, rfl, hW⟩ := hF
  replace hg : Goes w0 (keys ([(ph, .cells [.slice ah h.length ch].toArray 142 (0, 0))] ++ fh)) [[(ph, .cells [.slice ah h.length ch].toArray 142 (0, 0))], fh] w0 := hg.perm (by simp)
  have hown : ∀ {w : World} {g : Frag}, Goes w0 (keys ([(ph, .cells [.slice ah h.length ch].toArray 142 (0, 0))] ++ fh)) [[(ph, .cells [.slice ah h.length ch].toArray 142 (0, 0))], g] w → w.cell? ⟨ph, 0, none⟩ = some (.slice ah h.length ch) := fun hg => heap_cell (hg.own (ph, .cells [.slice ah h.length ch].toArray 142 (0, 0)) (by simp)) rfl
  refine enter Tryz.func106 rfl (by simp only [Tryz.ntmps106, List.length_cons, List.length_nil, Nat.reduceAdd, Nat.reduceSub, List.replicate_succ, List.replicate_zero, List.cons_append, List.nil_append]; exact rfl) ?_
  repeat' (first | refine zN ?_ | (refine WC.quietG hg ?_; clear hg) | ((with_reducible refine WQ.nilG ?_); intro w hg) | (refine zB ?_; clear hg; intro b w hg; refine WO.fr ?_) | (refine zW ?_; clear hg; intro w hg; refine WO.fr ?_) | (refine op_pureB hg ?_; clear hg; intro w hg c hc; cases c <;> refine WO.fr ?_))
  refine op_invokeV (hown hg) (Len_spec _ ah _ ch) ?_
  rintro _ w2 ⟨rfl, hg2⟩
  replace hg := hg.call00 hg2
  clear hg2
  refine ⟨_, rfl, ?_⟩
  refine WO.fr ?_
  repeat' (first | refine zN ?_ | (refine WC.quietG hg ?_; clear hg) | ((with_reducible refine WQ.nilG ?_); intro w hg) | (refine zB ?_; clear hg; intro b w hg; refine WO.fr ?_) | (refine zW ?_; clear hg; intro w hg; refine WO.fr ?_) | (refine op_pureB hg ?_; clear hg; intro w hg c hc; cases c <;> refine WO.fr ?_))
  rw [show ((h.length : Nat) : Int) - 1 = (n : Nat) from by omega]
  refine op_invokeV (hown hg) (Swap_spec 0 n (by omega) (by omega) (hg.front 1).owns1 hW) ?_
  rintro _ w3 ⟨f2, ⟨v, rfl⟩, hW2, hg2⟩
  replace hg := ((hg.front 1).callF hg2).swap
  clear hg2
  refine ⟨_, rfl, ?_⟩
  refine WO.fr ?_
  have hl2 := swp_len h 0 n
  have hp2 := swp_perm h 0 n (by omega) (by omega)
  have hdn : HpDn (swp h 0 n) n 0 := HpDn.start (hnn ▸ hH) hnn
  have hlast : (swp h 0 n).getD n 0 = h.getD 0 0 := by rw [swp_getD _ _ _ _ (by omega) (by omega), if_pos rfl]
  rw [← hl2] at hg
  generalize swp h 0 n = h2 at hW2 hl2 hp2 hdn hlast hg
  repeat' (first | refine zN ?_ | (refine WC.quietG hg ?_; clear hg) | ((with_reducible refine WQ.nilG ?_); intro w hg) | (refine zB ?_; clear hg; intro b w hg; refine WO.fr ?_) | (refine zW ?_; clear hg; intro w hg; refine WO.fr ?_) | (refine op_pureB hg ?_; clear hg; intro w hg c hc; cases c <;> refine WO.fr ?_))
  refine op_call (down_spec hg.join.owns1 ⟨ah, ch, f2, rfl, hW2⟩ hdn (by omega) (by omega)) ?_
  rintro _ w4 ⟨h3, f3, ⟨v2, rfl⟩, hF3, hp3, hk3, hH3, hg2⟩
  replace hg := hg.join.callF hg2
  clear hg2
  refine ⟨_, rfl, ?_⟩
  refine WO.fr ?_
  have hl3 := hp3.length_eq
  obtain ⟨h4, y, rfl⟩ : ∃ h4 y, h3 = h4 ++ [y] := by
    rcases List.eq_nil_or_concat h3 with h0 | ⟨L, b, rfl⟩
    · rw [h0] at hl3; simp at hl3; omega
    · exact ⟨L, b, by simp⟩
  have hl4 : h4.length = n := by simp at hl3; omega
  have hy : y = h.getD 0 0 := by
    have := hk3 n (Nat.le_refl _)
    rw [hlast, ← hl4, getD_last] at this
    exact this
  subst hy
  repeat' (first | refine zN ?_ | (refine WC.quietG hg ?_; clear hg) | ((with_reducible refine WQ.nilG ?_); intro w hg) | (refine zB ?_; clear hg; intro b w hg; refine WO.fr ?_) | (refine zW ?_; clear hg; intro w hg; refine WO.fr ?_) | (refine op_pureB hg ?_; clear hg; intro w hg c hc; cases c <;> refine WO.fr ?_))
  refine op_invokeP (mPop_spec hg.owns1 hF3 (by omega)) ?_
  rintro _ w5 ⟨f5, rfl, hF5, hg2⟩
  replace hg := hg.callF hg2
  clear hg2
  refine ⟨_, rfl, ?_⟩
  refine WO.fr ?_
  repeat' (first | refine zN ?_ | (refine WC.quietG hg ?_; clear hg) | ((with_reducible refine WQ.nilG ?_); intro w hg) | (refine zB ?_; clear hg; intro b w hg; refine WO.fr ?_) | (refine zW ?_; clear hg; intro w hg; refine WO.fr ?_) | (refine op_pureB hg ?_; clear hg; intro w hg c hc; cases c <;> refine WO.fr ?_))
  refine ret1 rfl ⟨h4, f5, ⟨_, rfl⟩, hF5, hp3.trans hp2, fun k h0 hk => ?_, hg⟩
  have := hH3 k h0 (by omega)
  simp only [List.getD_eq_getElem?_getD] at this ⊢
  rw [List.getElem?_append_left (by omega), List.getElem?_append_left (by omega)] at this
  exact this
end Go.Proofs.YtkdidefghbeabaaGreat
namespace Go.Proofs.YtkdidefghbeabaaGreat
open Go Go.RowKit
set_option linter.unusedSimpArgs false
set_option linter.unusedVariables false

/-- A map's object, as a list of keys and values. -/
structure MapIs {V : Type} (val : V → Value) (es : Array MapEntry) (clock : Nat) (m : List (Int × V)) : Prop where
  out : es.toList.map (fun e => (e.key, e.val)) = m.map fun p => (Value.int .i64 p.1, val p.2)
  st : MapKept.Stamped es clock

variable {V : Type} {val : V → Value}
def mget : List (Int × V) → Int → Option V
  | [], _ => none
  | p :: m, k => if p.1 = k then some p.2 else mget m k
def mset : List (Int × V) → Int → V → List (Int × V)
  | [], k, v => [(k, v)]
  | p :: m, k, v => if p.1 = k then (k, v) :: m else p :: mset m k v
def mdel : List (Int × V) → Int → List (Int × V)
  | [], _ => []
  | p :: m, k => if p.1 = k then m else p :: mdel m k
def mkeys (m : List (Int × V)) : List Int := m.map (·.1)

theorem mget_none {m : List (Int × V)} {k : Int} (h : k ∉ mkeys m) : mget m k = none := by
  induction m with
  | nil => rfl
  | cons p m ih =>
    simp only [mkeys, List.map_cons, List.mem_cons, not_or] at h
    rw [mget, if_neg (fun e => h.1 e.symm)]
    exact ih h.2
theorem mget_mset (m : List (Int × V)) (k : Int) (v : V) (k' : Int) : mget (mset m k v) k' = if k = k' then some v else mget m k' := by
  induction m with
  | nil => simp only [mset, mget]
  | cons p m ih =>
    rw [mset]
    split
    · rename_i hp
      rw [mget, mget]
      by_cases hk : k = k'
      · simp [hk]
      · rw [if_neg hk, if_neg hk, if_neg (by rw [hp]; exact hk)]
    · rename_i hp
      rw [mget, ih, mget]
      by_cases hk : k = k'
      · subst hk; simp [hp]
      · by_cases hp' : p.1 = k' <;> simp [hk, hp']
theorem mget_mdel (m : List (Int × V)) (k k' : Int) (hn : (mkeys m).Nodup) : mget (mdel m k) k' = if k = k' then none else mget m k' := by
  induction m with
  | nil => simp [mdel, mget]
  | cons p m ih =>
    simp only [mkeys, List.map_cons, List.nodup_cons] at hn
    rw [mdel]
    split
    · rename_i hp
      by_cases hk : k = k'
      · rw [if_pos hk, ← hk]; exact mget_none (by rw [← hp]; exact hn.1)
      · rw [if_neg hk, mget, if_neg (by rw [hp]; exact hk)]
    · rename_i hp
      rw [mget, ih hn.2, mget]
      by_cases hk : k = k'
      · subst hk; simp [hp]
      · by_cases hp' : p.1 = k' <;> simp [hk, hp']

/-- What the search in a map's entries finds. -/
theorem findNow_int (k : Int) : ∀ (l : List MapEntry) (m : List (Int × V)) (i : Nat), l.map (fun e => (e.key, e.val)) = m.map (fun p => (Value.int .i64 p.1, val p.2)) →
    (Instr.findNow (.int .i64) (.int .i64 k) l i = some none ∧ mget m k = none ∧ (∀ v, mset m k v = m ++ [(k, v)]) ∧ mdel m k = m ∧ ∀ x ∈ l, x.key ≠ .int .i64 k) ∨
    ∃ j x e, Instr.findNow (.int .i64) (.int .i64 k) l i = some (some (i + j, val x)) ∧ mget m k = some x ∧ l[j]? = some e ∧ e.key = .int .i64 k ∧ e.val = val x ∧ (∀ v, mset m k v = m.set j (k, v)) ∧ mdel m k = m.eraseIdx j
  | [], m, i, h => by
    obtain rfl : m = [] := by simpa using h.symm
    exact .inl ⟨rfl, rfl, fun _ => rfl, rfl, by simp⟩
  | e :: l, [], i, h => by simp at h
  | e :: l, p :: m, i, h => by
    simp only [List.map_cons, List.cons.injEq, Prod.mk.injEq] at h
    obtain ⟨⟨hk, hv⟩, ht⟩ := h
    by_cases hp : p.1 = k
    · subst hp
      exact .inr ⟨0, p.2, e, by simp [Instr.findNow, Instr.sameNow, hk, hv], by simp [mget], rfl, hk, hv, by simp [mset], by simp [mdel]⟩
    · have hne : (k == p.1) = false := by simpa using fun h => hp h.symm
      rcases findNow_int k l m (i + 1) ht with ⟨h1, h2, h3, h4, h5⟩ | ⟨j, x, e', h1, h2, h3, h4, h5, h6, h7⟩
      · refine .inl ⟨by simp [Instr.findNow, Instr.sameNow, hk, hne, h1], by simp [mget, hp, h2], fun v => by simp [mset, hp, h3], by simp [mdel, hp, h4], ?_⟩
        intro x hx
        rcases List.mem_cons.1 hx with rfl | hx
        · rw [hk]; simpa using hp
        · exact h5 x hx
      · exact .inr ⟨j + 1, x, e', by simp [Instr.findNow, Instr.sameNow, hk, hne, h1]; omega, by simp [mget, hp, h2], by simpa using h3, h4, h5, fun v => by simp [mset, hp, h6], by simp [mdel, hp, h7]⟩

theorem MapIs.empty (clock : Nat) : MapIs val #[] clock [] := ⟨rfl, MapKept.stamped_empty clock⟩
theorem MapIs.nodup {es : Array MapEntry} {clock : Nat} {m : List (Int × V)} (h : MapIs val es clock m) : (mkeys m).Nodup := by
  have h1 := h.st.2.2
  have h2 : es.toList.map (·.key) = (mkeys m).map (Value.int .i64 ·) := by
    have := congrArg (List.map Prod.fst) h.out
    simpa [mkeys, List.map_map, Function.comp_def] using this
  rw [h2] at h1
  exact (List.pairwise_map.1 h1).imp (fun hne e => hne (by rw [e]))

section
variable {P : Program} {r : Option Nat} {Q : Exit → Act → World → Prop} {l l' : List Value} {d : List Deferred} {w w' w0 : World} {M : List Nat} {Fs Fs' : List Frag}
variable {ops : Array Oper} {os : List Oper} {dst : Option Tmp} {ty : TypeId} {pos : String} {af : Array Edge} {v : Value}
variable {t kt et : TypeId} {x y z : Operand} {b clock : Nat} {es : Array MapEntry} {m : List (Int × V)} {k : Int} {u : V}

theorem Goes.mapAt {es : Array MapEntry} (hg : Goes w0 M ([(b, .map es clock)] :: Fs) w) : w.heap[b]? = some (.map es clock) := hg.own (b, .map es clock) (by simp)

theorem op_makeMap {rs : Option Operand} (hg : Goes w0 M Fs w) (h : ∀ b w', Goes w0 M ([(b, .map #[] 0)] :: Fs) w' → WO P r ops Q os (put l dst (.map (some b))) d w') (hr : rs = none := by exact rfl) :
    WO P r ops Q (⟨dst, .makeMap t rs, ty, pos, af, none⟩ :: os) l d w := by
  subst hr
  refine WO.val (by simp) ?_ rfl (h w.heap.size _ (hg.alloc _))
  rfl

theorem x_lookupOk {zv : Value} [H : Und P t (.map kt et)] [HK : Und P kt (.int .i64)] (hb : w.heap[b]? = some (.map es clock)) (hM : MapIs val es clock m) (hx : ev l x = .map (some b) := by first | (simp only [ev, gt, put, List.set_cons_succ, List.set_cons_zero, Nat.zero_add, Nat.add_zero, Nat.mul_one, Nat.reduceAdd, Nat.reduceMul, Int.toNat_natCast, Int.reduceToNat, List.map_cons, List.map_nil, List.cons_append, List.nil_append]; exact rfl) | simp only [ev, gt, put, List.set_cons_succ, List.set_cons_zero, Nat.zero_add, Nat.add_zero, Nat.mul_one, Nat.reduceAdd, Nat.reduceMul, Int.toNat_natCast, Int.reduceToNat, List.map_cons, List.map_nil, List.cons_append, List.nil_append]) (hy : ev l y = .int .i64 k := by first | (simp only [ev, gt, put, List.set_cons_succ, List.set_cons_zero, Nat.zero_add, Nat.add_zero, Nat.mul_one, Nat.reduceAdd, Nat.reduceMul, Int.toNat_natCast, Int.reduceToNat, List.map_cons, List.map_nil, List.cons_append, List.nil_append]; exact rfl) | simp only [ev, gt, put, List.set_cons_succ, List.set_cons_zero, Nat.zero_add, Nat.add_zero, Nat.mul_one, Nat.reduceAdd, Nat.reduceMul, Int.toNat_natCast, Int.reduceToNat, List.map_cons, List.map_nil, List.cons_append, List.nil_append])
    (hz : (P.info? et).bind (·.zero) = some zv := by kernel_rfl) :
    Runs P l (.lookup t x y true) ty w (.tuple #[((mget m k).map val).getD zv, .bool (mget m k).isSome]) := by
  refine ⟨by simp, fun d dst pos af => ?_⟩
  have hck := MapKept.run_checkKey (P := P) (w := w) (k := .int .i64 k) HK.out (by simp [MapKept.IsKey])
  have hzr : (zeroValue et).run P w = .ok zv w := by
    cases hi : P.info? et with
    | none => simp [hi] at hz
    | some i =>
      simp [hi] at hz
      simp [zeroValue, typeInfo, hi, hz]
  rcases findNow_int k es.toList m 0 hM.out with ⟨h1, h2, _⟩ | ⟨j, u, e, h1, h2, _⟩
  · have hf := MapKept.run_findKey (P := P) (w := w) HK.out h1
    simp [execOp, Instr.lookup, St_eval, hx, hy, run_underlying H.out, MapKept.run_getObj_map hb, hck, hf, hzr, h2]
  · have hf := MapKept.run_findKey (P := P) (w := w) HK.out h1
    simp [execOp, Instr.lookup, St_eval, hx, hy, run_underlying H.out, MapKept.run_getObj_map hb, hck, hf, h2]

theorem map_eraseIdx {α β : Type} (f : α → β) : ∀ (l : List α) (j : Nat), (l.eraseIdx j).map f = (l.map f).eraseIdx j
  | [], _ => rfl
  | _ :: _, 0 => rfl
  | a :: l, j + 1 => by simp [map_eraseIdx f l j]
theorem set_map {α β : Type} (f : α → β) (l : List α) (j : Nat) (a : α) : (l.set j a).map f = (l.map f).set j (f a) := List.map_set

theorem MapIs.modify {j : Nat} {e : MapEntry} {p : Int × V} (h : MapIs val es clock m) (he : es.toList[j]? = some e) (hk : e.key = .int .i64 p.1) : MapIs val (es.modify j fun e => { e with key := .int .i64 p.1, val := val p.2 }) clock (m.set j p) := by
  refine ⟨?_, MapKept.stamped_modify h.st j _ (by simp) (fun q _ hq2 => ?_)⟩
  · rw [set_map, ← h.out]
    apply List.ext_getElem?
    intro i
    simp only [List.getElem?_map, Array.getElem?_toList, Array.getElem?_modify, List.getElem?_set, List.length_map, Array.length_toList]
    have hlt := (List.getElem?_eq_some_iff.1 he).1
    simp only [Array.length_toList] at hlt
    by_cases hij : j = i
    · subst hij; simp [hlt]
    · simp [hij]
  · rw [Array.getElem?_toList] at he
    rw [he] at hq2
    obtain rfl := Option.some.inj hq2
    exact hk.symm
theorem MapIs.push (h : MapIs val es clock m) (hn : ∀ x ∈ es.toList, x.key ≠ .int .i64 k) : MapIs val (es.push { key := .int .i64 k, val := val u, born := clock }) (clock + 1) (m ++ [(k, u)]) :=
  ⟨by simp [h.out], MapKept.stamped_push h.st hn⟩
theorem MapIs.erase {j : Nat} (h : MapIs val es clock m) : MapIs val (es.eraseIdxIfInBounds j) clock (m.eraseIdx j) := by
  refine ⟨?_, MapKept.stamped_erase h.st j⟩
  have e1 : ∀ (l : List MapEntry), (l.eraseIdx j).map (fun e => (e.key, e.val)) = (l.map (fun e => (e.key, e.val))).eraseIdx j := fun l => map_eraseIdx _ _ j
  have e2 : (m.eraseIdx j).map (fun p => (Value.int .i64 p.1, val p.2)) = (m.map fun p => (Value.int .i64 p.1, val p.2)).eraseIdx j := map_eraseIdx _ _ j
  rw [e2, ← h.out, ← e1]
  unfold Array.eraseIdxIfInBounds
  split
  · simp
  · rw [List.eraseIdx_of_length_le (by simp; omega)]

theorem op_mapUpdate [H : Und P t (.map kt et)] [HK : Und P kt (.int .i64)] (hg : Goes w0 M ([(b, .map es clock)] :: Fs) w) (hM : MapIs val es clock m)
    (h : ∀ es' clock' w', MapIs val es' clock' (mset m k u) → Goes w0 M ([(b, .map es' clock')] :: Fs) w' → WO P r ops Q os (put l dst undef) d w')
    (hx : ev l x = .map (some b) := by first | (simp only [ev, gt, put, List.set_cons_succ, List.set_cons_zero, Nat.zero_add, Nat.add_zero, Nat.mul_one, Nat.reduceAdd, Nat.reduceMul, Int.toNat_natCast, Int.reduceToNat, List.map_cons, List.map_nil, List.cons_append, List.nil_append]; exact rfl) | simp only [ev, gt, put, List.set_cons_succ, List.set_cons_zero, Nat.zero_add, Nat.add_zero, Nat.mul_one, Nat.reduceAdd, Nat.reduceMul, Int.toNat_natCast, Int.reduceToNat, List.map_cons, List.map_nil, List.cons_append, List.nil_append]) (hy : ev l y = .int .i64 k := by first | (simp only [ev, gt, put, List.set_cons_succ, List.set_cons_zero, Nat.zero_add, Nat.add_zero, Nat.mul_one, Nat.reduceAdd, Nat.reduceMul, Int.toNat_natCast, Int.reduceToNat, List.map_cons, List.map_nil, List.cons_append, List.nil_append]; exact rfl) | simp only [ev, gt, put, List.set_cons_succ, List.set_cons_zero, Nat.zero_add, Nat.add_zero, Nat.mul_one, Nat.reduceAdd, Nat.reduceMul, Int.toNat_natCast, Int.reduceToNat, List.map_cons, List.map_nil, List.cons_append, List.nil_append]) (hz : ev l z = val u := by first | (simp only [ev, gt, put, List.set_cons_succ, List.set_cons_zero, Nat.zero_add, Nat.add_zero, Nat.mul_one, Nat.reduceAdd, Nat.reduceMul, Int.toNat_natCast, Int.reduceToNat, List.map_cons, List.map_nil, List.cons_append, List.nil_append]; exact rfl) | simp only [ev, gt, put, List.set_cons_succ, List.set_cons_zero, Nat.zero_add, Nat.add_zero, Nat.mul_one, Nat.reduceAdd, Nat.reduceMul, Int.toNat_natCast, Int.reduceToNat, List.map_cons, List.map_nil, List.cons_append, List.nil_append]) :
    WO P r ops Q (⟨dst, .mapUpdate t x y z, ty, pos, af, none⟩ :: os) l d w := by
  have hb := hg.mapAt
  have hck := MapKept.run_checkKey (P := P) (w := w) (k := .int .i64 k) HK.out (by simp [MapKept.IsKey])
  rcases findNow_int k es.toList m 0 hM.out with ⟨h1, h2, h3, _, h5⟩ | ⟨j, u', e, h1, h2, h3, h4, _, h6, _⟩
  · have hf := MapKept.run_findKey (P := P) (w := w) HK.out h1
    refine WO.skp (by simp) ?_ rfl (h _ _ _ (h3 u ▸ hM.push h5) (Turn.putObj (o' := .map (es.push { key := .int .i64 k, val := val u, born := clock }) (clock + 1)) .here hg))
    simp [execOp, Instr.mapUpdate, St_eval, hx, hy, hz, run_underlying H.out, MapKept.run_getObj_map hb, hck, hf, MapKept.run_setObj_map _ hb, World.putObj]
  · have hf := MapKept.run_findKey (P := P) (w := w) HK.out h1
    have hks := MapKept.run_keyThatStays (P := P) (w := w) (d := .int .i64) (k := .int .i64 k) (by simp [MapKept.IsKey])
    rw [Array.getElem?_toList] at h3
    refine WO.skp (by simp) ?_ rfl (h _ _ _ (h6 u ▸ hM.modify (p := (k, u)) (by rw [Array.getElem?_toList]; exact h3) h4) (Turn.putObj (o' := .map (es.modify j fun e => { e with key := .int .i64 k, val := val u }) clock) .here hg))
    simp [execOp, Instr.mapUpdate, St_eval, hx, hy, hz, run_underlying H.out, MapKept.run_getObj_map hb, hck, hf, h3, h4, hks, MapKept.run_setObj_map _ hb, World.putObj]

theorem op_delete {t' : TypeId} [H : Und P t (.map kt et)] [HK : Und P kt (.int .i64)] (hg : Goes w0 M ([(b, .map es clock)] :: Fs) w) (hM : MapIs val es clock m)
    (h : ∀ es' w', MapIs val es' clock (mdel m k) → Goes w0 M ([(b, .map es' clock)] :: Fs) w' → WO P r ops Q os (put l dst (.tuple #[])) d w')
    (hx : ev l x = .map (some b) := by first | (simp only [ev, gt, put, List.set_cons_succ, List.set_cons_zero, Nat.zero_add, Nat.add_zero, Nat.mul_one, Nat.reduceAdd, Nat.reduceMul, Int.toNat_natCast, Int.reduceToNat, List.map_cons, List.map_nil, List.cons_append, List.nil_append]; exact rfl) | simp only [ev, gt, put, List.set_cons_succ, List.set_cons_zero, Nat.zero_add, Nat.add_zero, Nat.mul_one, Nat.reduceAdd, Nat.reduceMul, Int.toNat_natCast, Int.reduceToNat, List.map_cons, List.map_nil, List.cons_append, List.nil_append]) (hy : ev l y = .int .i64 k := by first | (simp only [ev, gt, put, List.set_cons_succ, List.set_cons_zero, Nat.zero_add, Nat.add_zero, Nat.mul_one, Nat.reduceAdd, Nat.reduceMul, Int.toNat_natCast, Int.reduceToNat, List.map_cons, List.map_nil, List.cons_append, List.nil_append]; exact rfl) | simp only [ev, gt, put, List.set_cons_succ, List.set_cons_zero, Nat.zero_add, Nat.add_zero, Nat.mul_one, Nat.reduceAdd, Nat.reduceMul, Int.toNat_natCast, Int.reduceToNat, List.map_cons, List.map_nil, List.cons_append, List.nil_append]) :
    WO P r ops Q (⟨dst, .call { callee := .builtin .delete, args := #[x, y], argTypes := #[t, t'] }, ty, pos, af, none⟩ :: os) l d w := by
  have hb := hg.mapAt
  have hck := MapKept.run_checkKey (P := P) (w := w) (k := .int .i64 k) HK.out (by simp [MapKept.IsKey])
  rcases findNow_int k es.toList m 0 hM.out with ⟨h1, h2, h3, h4, h5⟩ | ⟨j, u', e, h1, h2, h3, h4, _, h6, h7⟩
  · have hf := MapKept.run_findKey (P := P) (w := w) HK.out h1
    refine WO.val (by simp) ?_ rfl (h _ _ (h4.symm ▸ hM) (Turn.putObj (o' := .map es clock) .here hg))
    simp [execOp, resolve, invoke, builtin, Builtin.delete_, St_eval, hx, hy, run_underlying H.out, MapKept.run_getObj_map hb, hck, hf, MapKept.run_setObj_map _ hb, World.putObj]
  · have hf := MapKept.run_findKey (P := P) (w := w) HK.out h1
    refine WO.val (by simp) ?_ rfl (h _ _ (h7 ▸ hM.erase (j := j)) (Turn.putObj (o' := .map (es.eraseIdxIfInBounds j) clock) .here hg))
    simp [execOp, resolve, invoke, builtin, Builtin.delete_, St_eval, hx, hy, run_underlying H.out, MapKept.run_getObj_map hb, hck, hf, MapKept.run_setObj_map _ hb, World.putObj]
end
end Go.Proofs.YtkdidefghbeabaaGreat
namespace Go.Proofs.YtkdidefghbeabaaGreat
open Go Go.RowKit
set_option maxRecDepth 10000
set_option linter.unusedSimpArgs false
set_option linter.unusedVariables false

def Tok.enc (t : Tok) : List Value := [.int .i64 t.kind, .int .i64 t.rule, .int .i64 t.fr, .int .i64 t.at', .int .i64 t.to, .int .i64 t.mode]
def Ent.val (e : Ent) : Value := .agg [.int .i64 e.mode, .int .i64 e.tok.kind, .int .i64 e.tok.rule, .int .i64 e.tok.fr, .int .i64 e.tok.at', .int .i64 e.tok.to, .int .i64 e.tok.mode].toArray
def CE.enc (e : CE) : List Value := [.int .i64 e.at', .int .i64 e.mode, .int .i64 e.tok.kind, .int .i64 e.tok.rule, .int .i64 e.tok.fr, .int .i64 e.tok.at', .int .i64 e.tok.to, .int .i64 e.tok.mode]
def Ent.zero : Ent := ⟨0, Tok.none⟩

/-- The cache as it lies. -/
def CacheF (pc : Nat) (room : Int) (m : List (Int × Ent)) (h : List Int) (f : Frag) : Prop := ∃ ph bm clock es fh, f = [(pc, .cells [.int .i64 room, .map (some bm), .pointer (some ⟨ph, 0, none⟩)].toArray 144 (0, 0))] ++ (fh ++ [(bm, .map es clock)]) ∧ HeapF ph h fh ∧ MapIs Ent.val es clock m
theorem Goes.three {w0 w : World} {M : List Nat} {a b c : Frag} {Fs : List Frag} (hg : Goes w0 M ((a ++ (b ++ c)) :: Fs) w) : Goes w0 M (a :: b :: c :: Fs) w := hg.perm (by simp)
theorem Goes.unthree {w0 w : World} {M : List Nat} {a b c : Frag} {Fs : List Frag} (hg : Goes w0 M (a :: b :: c :: Fs) w) : Goes w0 M ((a ++ (b ++ c)) :: Fs) w := hg.perm (by simp)
theorem MapIs.size {V : Type} {val : V → Value} {es : Array MapEntry} {clock : Nat} {m : List (Int × V)} (h : MapIs val es clock m) : es.size = m.length := by
  have := congrArg List.length h.out
  simpa using this
theorem mget_mem {V : Type} (m : List (Int × V)) (p : Int) : (mget m p).isSome = true ↔ p ∈ mkeys m := by
  induction m with
  | nil => simp [mget, mkeys]
  | cons q m ih =>
    simp only [mkeys, List.map_cons, List.mem_cons] at ih ⊢
    rw [mget]
    by_cases hp : q.1 = p
    · simp [hp]
    · rw [if_neg hp, ih]; simp [Ne.symm hp]
theorem CRel.mlen {w : List CE} {m : List (Int × Ent)} {h : List Int} (H : CRel w (mget m) h) (hn : (mkeys m).Nodup) : m.length = w.length := by
  have h1 : (mkeys m).Perm (plc w) := (List.perm_ext_iff_of_nodup hn (sorted_nodup H.sorted)).2 (fun p => by rw [← mget_mem, H.has])
  have := h1.length_eq
  simpa [mkeys, plc] using this

theorem CNew_spec (w0 : World) (n : Int) : Calls Tryz.prog 47 #[.int .i64 n] w0 fun e w' => ∃ pc f, e = .returned (.pointer (some ⟨pc, 0, none⟩)) ∧ CacheF pc (min (max n 1) 131072) [] [] f ∧ Goes w0 [] [f] w' := by
  have hg := Goes.refl w0
  refine enter Tryz.func47 rfl (by simp only [Tryz.ntmps47, List.length_cons, List.length_nil, Nat.reduceAdd, Nat.reduceSub, List.replicate_succ, List.replicate_zero, List.cons_append, List.nil_append]; exact rfl) ?_
  repeat' (first | refine zN ?_ | (refine WC.quietG hg ?_; clear hg) | ((with_reducible refine WQ.nilG ?_); intro w hg) | (refine zB ?_; clear hg; intro b w hg; refine WO.fr ?_) | (refine zW ?_; clear hg; intro w hg; refine WO.fr ?_) | (refine op_pureB hg ?_; clear hg; intro w hg c hc; cases c <;> refine WO.fr ?_))
  refine op_makeMap hg ?_
  clear hg
  intro bm w hg
  refine WO.fr ?_
  repeat' (first | refine zN ?_ | (refine WC.quietG hg ?_; clear hg) | ((with_reducible refine WQ.nilG ?_); intro w hg) | (refine zB ?_; clear hg; intro b w hg; refine WO.fr ?_) | (refine zW ?_; clear hg; intro w hg; refine WO.fr ?_) | (refine op_pureB hg ?_; clear hg; intro w hg c hc; cases c <;> refine WO.fr ?_))
  refine op_buildNil hg ?_
  clear hg
  intro br w hO hg
  refine WO.fr ?_
  repeat' (first | refine zN ?_ | (refine WC.quietG hg ?_; clear hg) | ((with_reducible refine WQ.nilG ?_); intro w hg) | (refine zB ?_; clear hg; intro b w hg; refine WO.fr ?_) | (refine zW ?_; clear hg; intro w hg; refine WO.fr ?_) | (refine op_pureB hg ?_; clear hg; intro w hg c hc; cases c <;> refine WO.fr ?_))
  rename_i ph _
  exact ret1 rfl ⟨b, _, rfl, ⟨ph, bm, 0, #[], _, rfl, ⟨_, _, _, rfl, hO⟩, .empty 0⟩, hg.perm (by simp)⟩

theorem cmade_spec {pc bm : Nat} {w : World} (hc : w.cell? ⟨pc, 1, none⟩ = some (.map (some bm))) : Calls Tryz.prog 125 #[.pointer (some ⟨pc, 0, none⟩)] w fun e w' => e = .returned (.bool true) ∧ Goes w [] [] w' := by
  have hg := Goes.refl w
  have c1 : ∀ {w' Fs}, Goes w [] Fs w' → w'.cell? ⟨pc, 1, none⟩ = some (.map (some bm)) := fun h => h.cellOld0 hc
  refine enter Tryz.func125 rfl (by simp only [Tryz.ntmps125, List.length_cons, List.length_nil, Nat.reduceAdd, Nat.reduceSub, List.replicate_succ, List.replicate_zero, List.cons_append, List.nil_append]; exact rfl) ?_
  repeat' (first | refine zN ?_ | (refine WC.quietG hg ?_; clear hg) | ((with_reducible refine WQ.nilG ?_); intro w hg) | (refine zB ?_; clear hg; intro b w hg; refine WO.fr ?_) | (refine zW ?_; clear hg; intro w hg; refine WO.fr ?_) | (refine op_pureB hg ?_; clear hg; intro w hg c hc; cases c <;> refine WO.fr ?_))
  exact ret1 rfl ⟨rfl, hg.drop⟩
theorem some_spec {ph n ch : Nat} {ah : Option Addr} {w0 : World} (hc : w0.cell? ⟨ph, 0, none⟩ = some (.slice ah n ch)) :
    Calls Tryz.prog 132 #[.iface 141 (.pointer (some ⟨ph, 0, none⟩))] w0 fun e w' => e = .returned (.bool (decide (0 < n))) ∧ Goes w0 [] [] w' := by
  have hg := Goes.refl w0
  refine enter Tryz.func132 rfl (by simp only [Tryz.ntmps132, List.length_cons, List.length_nil, Nat.reduceAdd, Nat.reduceSub, List.replicate_succ, List.replicate_zero, List.cons_append, List.nil_append]; exact rfl) ?_
  repeat' (first | refine zN ?_ | (refine WC.quietG hg ?_; clear hg) | ((with_reducible refine WQ.nilG ?_); intro w hg) | (refine zB ?_; clear hg; intro b w hg; refine WO.fr ?_) | (refine zW ?_; clear hg; intro w hg; refine WO.fr ?_) | (refine op_pureB hg ?_; clear hg; intro w hg c hc; cases c <;> refine WO.fr ?_))
  refine op_invokeV hc (Len_spec _ ah _ ch) ?_
  rintro _ w2 ⟨rfl, hg2⟩
  replace hg := hg.call00 hg2
  clear hg2
  refine ⟨_, rfl, ?_⟩
  refine WO.fr ?_
  by_cases hn : 0 < n
  · rw [decide_eq_true hn]
    repeat' (first | refine zN ?_ | (refine WC.quietG hg ?_; clear hg) | ((with_reducible refine WQ.nilG ?_); intro w hg) | (refine zB ?_; clear hg; intro b w hg; refine WO.fr ?_) | (refine zW ?_; clear hg; intro w hg; refine WO.fr ?_) | (refine op_pureB hg ?_; clear hg; intro w hg c hc; cases c <;> refine WO.fr ?_))
    exact ret1 rfl ⟨rfl, hg.drop⟩
  · rw [decide_eq_false hn]
    repeat' (first | refine zN ?_ | (refine WC.quietG hg ?_; clear hg) | ((with_reducible refine WQ.nilG ?_); intro w hg) | (refine zB ?_; clear hg; intro b w hg; refine WO.fr ?_) | (refine zW ?_; clear hg; intro w hg; refine WO.fr ?_) | (refine op_pureB hg ?_; clear hg; intro w hg c hc; cases c <;> refine WO.fr ?_))
    exact ret1 rfl ⟨rfl, hg.drop⟩

set_option maxHeartbeats 1000000 in
theorem Least_spec {pc : Nat} {room : Int} {m : List (Int × Ent)} {h : List Int} {f : Frag} {w0 : World} (hO : Owns w0 f) (hF : CacheF pc room m h f) (hn : h.length ≤ 900000) :
    Calls Tryz.prog 105 #[.pointer (some ⟨pc, 0, none⟩)] w0 fun e w' => e = .returned (.tuple #[.int .i64 (h.getD 0 0), .bool (decide (0 < h.length))]) ∧ Goes w0 [] [] w' := by
  obtain ⟨ph, bm, clock, es, fh, rfl, ⟨ah, ch, fr, rfl, hW⟩, hm⟩ := hF
  have hg := Goes.refl w0
  have hpc := hO.1 (pc, .cells [.int .i64 room, .map (some bm), .pointer (some ⟨ph, 0, none⟩)].toArray 144 (0, 0)) (by simp)
  have hph := hO.1 (ph, .cells [.slice ah h.length ch].toArray 142 (0, 0)) (by simp)
  have h1 : w0.cell? ⟨pc, 1, none⟩ = some (.map (some bm)) := heap_cell hpc rfl
  have h2 : w0.cell? ⟨pc, 2, none⟩ = some (.pointer (some ⟨ph, 0, none⟩)) := heap_cell hpc rfl
  have h3 : w0.cell? ⟨ph, 0, none⟩ = some (.slice ah h.length ch) := heap_cell hph rfl
  have c1 : ∀ {w Fs}, Goes w0 [] Fs w → w.cell? ⟨pc, 2, none⟩ = some (.pointer (some ⟨ph, 0, none⟩)) := fun g => g.cellOld0 h2
  have c2 : ∀ {w Fs}, Goes w0 [] Fs w → w.cell? ⟨ph, 0, none⟩ = some (.slice ah h.length ch) := fun g => g.cellOld0 h3
  have p1 : ∀ {w Fs}, Goes w0 [] Fs w → Calls Tryz.prog 125 #[.pointer (some ⟨pc, 0, none⟩)] w _ := fun g => cmade_spec (g.cellOld0 h1)
  have p2 : ∀ {w Fs}, Goes w0 [] Fs w → Calls Tryz.prog 132 #[.iface 141 (.pointer (some ⟨ph, 0, none⟩))] w _ := fun g => some_spec (c2 g)
  by_cases hz : 0 < h.length
  · rw [decide_eq_true hz] at p2 ⊢
    have hsl := ints_own (w0 := w0) (w := w0) (M := keys fr) (Fs := []) hW (Owns.goes ⟨fun p hp => hO.1 p (by simp [hp]), by
      have := hO.2
      simp only [keys, List.map_append, List.map_cons, List.map_nil, List.nodup_append] at this
      exact this.2.1.1.2.1⟩) (by omega)
    obtain ⟨b, k, rfl, hk⟩ := ints_cell hsl 0 hz
    have c3 : ∀ {w Fs}, Goes w0 [] Fs w → w.cell? ⟨b, k, none⟩ = some (.int .i64 (h.getD 0 0)) := fun g => g.cellOld0 hk
    refine enter Tryz.func105 rfl (by simp only [Tryz.ntmps105, List.length_cons, List.length_nil, Nat.reduceAdd, Nat.reduceSub, List.replicate_succ, List.replicate_zero, List.cons_append, List.nil_append]; exact rfl) ?_
    repeat' (first | refine zN ?_ | (refine WC.quietG hg ?_; clear hg) | ((with_reducible refine WQ.nilG ?_); intro w hg) | (refine zB ?_; clear hg; intro b w hg; refine WO.fr ?_) | (refine zW ?_; clear hg; intro w hg; refine WO.fr ?_) | (refine op_pureB hg ?_; clear hg; intro w hg c hc; cases c <;> refine WO.fr ?_))
    refine op_mkIface ?_
    refine WO.fr ?_
    repeat' (first | refine zN ?_ | (refine WC.quietG hg ?_; clear hg) | ((with_reducible refine WQ.nilG ?_); intro w hg) | (refine zB ?_; clear hg; intro b w hg; refine WO.fr ?_) | (refine zW ?_; clear hg; intro w hg; refine WO.fr ?_) | (refine op_pureB hg ?_; clear hg; intro w hg c hc; cases c <;> refine WO.fr ?_))
    exact ret2 rfl ⟨rfl, hg.drop⟩
  · rw [decide_eq_false hz] at p2 ⊢
    have hh : h = [] := List.eq_nil_of_length_eq_zero (by omega)
    refine enter Tryz.func105 rfl (by simp only [Tryz.ntmps105, List.length_cons, List.length_nil, Nat.reduceAdd, Nat.reduceSub, List.replicate_succ, List.replicate_zero, List.cons_append, List.nil_append]; exact rfl) ?_
    repeat' (first | refine zN ?_ | (refine WC.quietG hg ?_; clear hg) | ((with_reducible refine WQ.nilG ?_); intro w hg) | (refine zB ?_; clear hg; intro b w hg; refine WO.fr ?_) | (refine zW ?_; clear hg; intro w hg; refine WO.fr ?_) | (refine op_pureB hg ?_; clear hg; intro w hg c hc; cases c <;> refine WO.fr ?_))
    refine op_mkIface ?_
    refine WO.fr ?_
    repeat' (first | refine zN ?_ | (refine WC.quietG hg ?_; clear hg) | ((with_reducible refine WQ.nilG ?_); intro w hg) | (refine zB ?_; clear hg; intro b w hg; refine WO.fr ?_) | (refine zW ?_; clear hg; intro w hg; refine WO.fr ?_) | (refine op_pureB hg ?_; clear hg; intro w hg c hc; cases c <;> refine WO.fr ?_))
    exact ret2 rfl ⟨by rw [hh]; rfl, hg.drop⟩
end Go.Proofs.YtkdidefghbeabaaGreat
