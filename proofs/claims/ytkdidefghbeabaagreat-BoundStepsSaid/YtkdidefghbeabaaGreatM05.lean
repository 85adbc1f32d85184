/- Growable slices that are owned; append. Interfaces: what is put into one, taken out of one, called through one; quotients of negatives; rows that a fragment bears; slices that are cut. Regions that draw their order, where a move may be late and others need not wait for it. -/
import Derived.Test.YtkdidefghbeabaaGreatM04
import Derived.Deep.AppendSrc
import Derived.MapKept
namespace Go.Proofs.YtkdidefghbeabaaGreat
open Go Go.RowKit
set_option linter.unusedSimpArgs false
set_option linter.unusedVariables false

/-- A slice that is owned, of n elements (sz cells each) that hold xs, and the fragment that bears it. -/
inductive Own (e : TypeId) (sz : Nat) : Option Addr → Nat → Nat → List Value → Frag → Prop
  | nil : Own e sz none 0 0 [] []
  | row {g n cap : Nat} {cur xs : List Value} (hn : n ≤ cap) (hc : cap ≤ maxLen) (hl : cur.length = cap * sz) (ht : cur.take (n * sz) = xs) : Own e sz (some ⟨g, 0, none⟩) n cap xs [(g, .cells cur.toArray e (0, 0))]

section
variable {P : Program} {e : TypeId} {sz n cap : Nat} {a : Option Addr} {xs : List Value} {f : Frag} {w0 w : World} {M : List Nat} {Fs : List Frag}

theorem Own.len (h : Own e sz a n cap xs f) : xs.length = n * sz := by
  cases h with
  | nil => simp
  | @row g _ _ cur _ hn hc hl ht => rw [← ht, List.length_take, hl]; exact Nat.min_eq_left (Nat.mul_le_mul_right _ hn)
theorem Own.le (h : Own e sz a n cap xs f) : n ≤ cap := by
  cases h with
  | nil => exact Nat.le_refl _
  | row hn => exact hn
/-- Its rows are there. -/
theorem Own.sl {rows : List (List Value)} (h : Own e sz a n cap rows.flatten f) (hg : Goes w0 M (f :: Fs) w) (hr : ∀ r ∈ rows, r.length = sz) (hn : rows.length = n) (hl : n ≤ 140737488351232) : Sl w a cap sz rows := by
  refine ⟨by rw [hn]; exact h.le, by omega, fun ha => ?_, fun p hp hne => ?_⟩
  · subst ha
    have : n = 0 := by generalize rows.flatten = xs at h; cases h; rfl
    exact List.eq_nil_of_length_eq_zero (by omega)
  · subst hp
    generalize hxs : rows.flatten = xs at h
    cases h with
    | @row g _ _ cur _ hle hc hlen ht =>
      refine ⟨g, 0, rfl, fun i r hi => ⟨hr r (List.mem_of_getElem? hi), fun j v hj => ?_⟩⟩
      have h1 := rows_get sz rows hr i j r v hi hj
      rw [hxs, ← ht] at h1
      rw [add_lit]
      have hb := hg.own (g, .cells cur.toArray e (0, 0)) (by simp)
      simp only [World.cell?, hb, Option.isSome_none, Bool.false_eq_true, if_false, Nat.zero_add]
      rw [List.getElem?_take] at h1
      split at h1
      · simpa using h1
      · simp at h1

/-- The beginning of a slice. -/
theorem Sl.pre {rows : List (List Value)} (h : Sl w a cap sz rows) (m : Nat) : Sl w a cap sz (rows.take m) := by
  have hc := h.cap
  have hl := h.lim
  refine ⟨by simp; omega, by simp; omega, fun hn => by simp [h.nil hn], fun p hp hne => ?_⟩
  obtain ⟨b, k, e, hr⟩ := h.row p hp (by rintro rfl; simp at hne)
  refine ⟨b, k, e, fun i r hi => ?_⟩
  rw [List.getElem?_take] at hi
  split at hi
  · exact hr i r hi
  · simp at hi
/-- What is appended: out of a slice that is there. -/
theorem Sl.src {b : Option Addr} {c : Nat} {rows : List (List Value)} {tx e' : TypeId} (h : Sl w b c sz rows) (hk : P.underlying tx = some (.slice e')) (hr : ∀ r ∈ rows, r.length = sz) (ho : ∀ r ∈ rows, ∀ u ∈ r, u.oneCell' = true) :
    Src P sz tx (.slice b rows.length c) rows.length rows.flatten w := by
  cases b with
  | none =>
    obtain rfl := h.nil rfl
    exact Src.ofNil w hk c
  | some p =>
    have hfl : rows.flatten.length = rows.length * sz := by
      clear h ho
      induction rows with
      | nil => simp
      | cons r rs ih => rw [List.flatten_cons, List.length_append, ih (fun q hq => hr q (by simp [hq])), hr r (by simp), List.length_cons, Nat.add_mul]; omega
    refine Src.ofSlice w hk p _ _ _ hfl (fun j u hj => ?_) (fun u hu => ?_)
    · have hne : rows ≠ [] := by rintro rfl; simp at hj
      obtain ⟨bb, k, rfl, hrow⟩ := h.row p rfl hne
      have hjl := (List.getElem?_eq_some_iff.1 hj).1
      rw [hfl] at hjl
      have hsz : 0 < sz := by
        rcases Nat.eq_zero_or_pos sz with h0 | h0
        · subst h0; omega
        · exact h0
      have hi : j / sz < rows.length := Nat.div_lt_of_lt_mul (by rw [Nat.mul_comm]; exact hjl)
      have hm := Nat.mod_lt j hsz
      have h2 := hrow (j / sz) _ (List.getElem?_eq_getElem hi)
      have h3 : rows[j / sz][j % sz]? = some u := by
        have hlt : j % sz < rows[j / sz].length := by rw [h2.1]; exact hm
        have h4 := rows_get sz rows hr (j / sz) (j % sz) _ _ (List.getElem?_eq_getElem hi) (List.getElem?_eq_getElem hlt)
        rw [Nat.mul_comm, Nat.div_add_mod] at h4
        rw [List.getElem?_eq_getElem hlt, ← h4, hj]
      have h5 := h2.2 (j % sz) u h3
      rw [add_lit] at h5 ⊢
      rw [show k + j = k + j / sz * sz + j % sz from by rw [Nat.add_assoc, Nat.mul_comm, Nat.div_add_mod]]
      exact h5
    · obtain ⟨r, hr1, hr2⟩ := List.mem_flatten.1 hu
      exact ho r hr1 u hr2

theorem run_append_own_frag {t tx ty : TypeId} {x : Value} {m by' : Nat} {news zs : List Value} [H : Und P t (.slice e)] [S : Size P e sz] [B : Bytes P e by'] [Z : Zero P e zs]
    (hg : Goes w0 M (f :: Fs) w) (hO : Own e sz a n cap xs f) (hx : Src P sz tx x m news w) (hz : zs.length = sz) (h0 : 0 < sz) (h1 : 0 < by') (hb : (n + m) * by' ≤ 140737488355328) :
    ∃ a' cap' f' w', (Builtin.append_ #[t, tx] ty #[.slice a n cap, x]).run P w = .ok (.slice a' (n + m) cap') w' ∧ Own e sz a' (n + m) cap' (xs ++ news) f' ∧ Goes w0 M (f' :: Fs) w' := by
  have hSo := S.out
  have hBo := B.out
  have hZo := Z.out
  cases hi : P.info? e with
  | none => simp [hi] at hSo
  | some ie =>
    simp [hi] at hSo hBo hZo
    obtain ⟨z, hz1, hz2⟩ := hZo
    subst hSo
    have hml : n + m ≤ 140737488355328 := by
      have : (n + m) * 1 ≤ (n + m) * by' := Nat.mul_le_mul_left _ h1
      omega
    have hmax : n + m ≤ maxLen := by simp only [maxLen]; omega
    have hlen : (xs ++ news).length = (n + m) * ie.size := by rw [List.length_append, hO.len, hx.newsLen, Nat.add_mul]
    have hzc : z.cells.size = ie.size := by rw [← hz, ← hz2]; simp
    -- a new row
    have grow : ∀ (b0 : Option Addr) (c0 : Nat), c0 < n + m → (Builtin.firstCells ie.size n (.slice b0 n c0)).run P w.drew = .ok xs.toArray w.drew →
        ∃ a' cap' f' w', (Builtin.append_ #[t, tx] ty #[.slice b0 n c0, x]).run P w = .ok (.slice a' (n + m) cap') w' ∧ Own e ie.size a' (n + m) cap' (xs ++ news) f' ∧ Goes w0 M (f' :: Fs) w' := by
      intro b0 c0 hlt hold
      have hr := run_append_grow_src (P := P) w t tx ty e ie z H.out hi hz1 b0 n c0 xs hold x m news hx hlt (by omega) (by rw [hBo]; exact growslice_fits hlt hb)
      have hge := grownCap_ge w (n + m) c0 e
      have hcm : grownCap w (n + m) c0 e ≤ maxLen := grownCap_le_maxLen w (n + m) c0 e hmax
      have hobj : ((xs ++ news).toArray ++ Builtin.zeroCells z.cells (grownCap w (n + m) c0 e - (n + m))) = ((xs ++ news) ++ (Builtin.zeroCells z.cells (grownCap w (n + m) c0 e - (n + m))).toList).toArray := by
        apply Array.ext'; simp
      rw [hobj] at hr
      refine ⟨_, _, _, _, hr, ?_, ((hg.sub (Fs' := Fs) (by simp)).drew).alloc _⟩
      refine .row hge hcm ?_ ?_
      · rw [List.length_append, hlen, Array.length_toList, size_zeroCells, hzc, ← Nat.add_mul]
        congr 1
        omega
      · rw [← hlen]; exact List.take_left
    cases hO with
    | nil =>
      by_cases hm : m = 0
      · subst hm
        have hnw : news = [] := List.eq_nil_of_length_eq_zero (by simpa using hx.newsLen)
        subst hnw
        refine ⟨none, 0, [], w, ?_, .nil, hg⟩
        rcases hx.kind with ⟨e', hk⟩ | hk <;> simp [Builtin.append_, run_underlying H.out, run_underlying hk, sizeOf, typeInfo, hi, hx.len, hx.cells]
      · exact grow none 0 (by omega) (run_firstCells_none w.drew _ _ _ _)
    | @row g _ _ cur _ hle hc hl ht =>
      have hown := hg.own (g, .cells cur.toArray e (0, 0)) (by simp)
      by_cases hroom : n + m ≤ cap
      · have hfit : n * ie.size + news.length ≤ cur.length := by rw [hx.newsLen, hl, ← Nat.add_mul]; exact Nat.mul_le_mul_right _ hroom
        have hst := run_storeCells_at P g (n * ie.size) e news 0 cur.toArray w hown (by simpa using hfit) hx.one
        simp only [Nat.add_zero] at hst
        refine ⟨some ⟨g, 0, none⟩, cap, [(g, .cells (cur.take (n * ie.size) ++ news ++ cur.drop (n * ie.size + news.length)).toArray e (0, 0))], _, ?_, ?_, Turn.setRow .here hg⟩
        · rcases hx.kind with ⟨e', hk⟩ | hk <;> simp [Builtin.append_, run_underlying H.out, run_underlying hk, sizeOf, typeInfo, hi, hx.len, hroom, hx.cells, Addr.add_lit, hst]
        · refine .row hroom hc ?_ ?_
          · simp only [List.length_append, List.length_take, List.length_drop]; omega
          · rw [ht, ← hlen]; exact List.take_left
      · have hcells : ∀ j u, xs[j]? = some u → w.drew.cell? ((⟨g, 0, none⟩ : Addr).add j) = some u := by
          intro j u hj
          rw [add_lit]
          have : (w.drew).heap[g]? = some (.cells cur.toArray e (0, 0)) := hown
          simp only [World.cell?, this, Option.isSome_none, Bool.false_eq_true, if_false, Nat.zero_add]
          rw [← ht, List.getElem?_take] at hj
          split at hj
          · simpa using hj
          · simp at hj
        have hxl : xs.length = n * ie.size := by rw [← ht, List.length_take, hl]; exact Nat.min_eq_left (Nat.mul_le_mul_right _ hle)
        exact grow _ _ (by omega) (run_firstCells_some w.drew ie.size n ⟨g, 0, none⟩ n cap xs hxl hcells)

variable {r : Option Nat} {ops : Array Oper} {Q : Exit → Act → World → Prop} {os : List Oper} {l : List Value} {d : List Deferred} {dst : Option Tmp} {ty : TypeId} {pos : String} {af : Array Edge}
/-- append, onto a slice that is owned; w: a fragment in front. -/
theorem op_append {t tx : TypeId} {y z : Operand} {x : Value} {m by' : Nat} {news zs : List Value} [H : Und P t (.slice e)] [S : Size P e sz] [B : Bytes P e by'] [Z : Zero P e zs]
    (hg : Goes w0 M (f :: Fs) w) (hO : Own e sz a n cap xs f) (hx : Src P sz tx x m news w)
    (h : ∀ a' cap' f' w', Own e sz a' (n + m) cap' (xs ++ news) f' → Goes w0 M (f' :: Fs) w' → WO P r ops Q os (put l dst (.slice a' (n + m) cap')) d w')
    (hy : ev l y = .slice a n cap := by first | (simp only [ev, gt, put, List.set_cons_succ, List.set_cons_zero, Nat.zero_add, Nat.add_zero, Nat.mul_one, Nat.reduceAdd, Nat.reduceMul, Int.toNat_natCast, Int.reduceToNat, List.map_cons, List.map_nil, List.cons_append, List.nil_append]; exact rfl) | simp only [ev, gt, put, List.set_cons_succ, List.set_cons_zero, Nat.zero_add, Nat.add_zero, Nat.mul_one, Nat.reduceAdd, Nat.reduceMul, Int.toNat_natCast, Int.reduceToNat, List.map_cons, List.map_nil, List.cons_append, List.nil_append]) (hx' : ev l z = x := by first | (simp only [ev, gt, put, List.set_cons_succ, List.set_cons_zero, Nat.zero_add, Nat.add_zero, Nat.mul_one, Nat.reduceAdd, Nat.reduceMul, Int.toNat_natCast, Int.reduceToNat, List.map_cons, List.map_nil, List.cons_append, List.nil_append]; exact rfl) | simp only [ev, gt, put, List.set_cons_succ, List.set_cons_zero, Nat.zero_add, Nat.add_zero, Nat.mul_one, Nat.reduceAdd, Nat.reduceMul, Int.toNat_natCast, Int.reduceToNat, List.map_cons, List.map_nil, List.cons_append, List.nil_append]) (hb : (n + m) * by' ≤ 140737488355328 := by omega) (hz : zs.length = sz := by decide) (h0 : 0 < sz := by decide) (h1 : 0 < by' := by decide) :
    WO P r ops Q (⟨dst, .call { callee := .builtin .append, args := #[y, z], argTypes := #[t, tx] }, ty, pos, af, none⟩ :: os) l d w := by
  obtain ⟨a', cap', f', w', hrun, hO', hg'⟩ := run_append_own_frag (t := t) (tx := tx) (ty := ty) hg hO hx hz h0 h1 hb
  refine WO.val (by simp) ?_ rfl (h a' cap' f' w' hO' hg')
  simp [execOp, resolve, invoke, builtin, St_eval, hy, hx', hrun]
/-- An empty slice literal. -/
theorem op_buildNil {t : TypeId} [H : Und P t (.slice e)] [S : Size P e sz] (hg : Goes w0 M Fs w)
    (h : ∀ b w', Own e sz (some ⟨b, 0, none⟩) 0 0 [] [(b, .cells [].toArray e (0, 0))] → Goes w0 M ([(b, .cells [].toArray e (0, 0))] :: Fs) w' → WO P r ops Q os (put l dst (.slice (some ⟨b, 0, none⟩) 0 0)) d w') :
    WO P r ops Q (⟨dst, .buildSlice t 0 #[], ty, pos, af, none⟩ :: os) l d w := by
  have hSo := S.out
  cases hi : P.info? e with
  | none => simp [hi] at hSo
  | some ie =>
    refine WO.val (by simp) ?_ rfl (h w.heap.size _ (.row (Nat.le_refl _) (by decide) (by simp) (by simp)) (hg.alloc _))
    simp [execOp, Instr.buildSlice, run_underlying H.out, sizeOf, typeInfo, hi, Instr.fill, newRow, show Array.range 0 = #[] from Array.eq_empty_of_size_eq_zero (by simp)]
/-- A slice literal of one element, to be appended. -/
theorem Goes.src1 {b : Nat} {row : List Value} {tx e' : TypeId} {z : Nat × Nat} (hg : Goes w0 M ([(b, .cells [row].flatten.toArray e z)] :: Fs) w) (hk : P.underlying tx = some (.slice e')) (hr : row.length = sz) (ho : row.all (·.oneCell') = true) : Src P sz tx (.slice (some ⟨b, 0, none⟩) 1 1) 1 row w := by
  have h1 := Has.sl (rows := [row]) (s := sz) (cap := 1) .here hg (by simpa using hr) (by simp) (by simp)
  have := h1.src (P := P) (tx := tx) hk (by simpa using hr) (by simpa using ho)
  simpa using this

theorem flat_len (s : Nat) : ∀ (rows : List (List Value)), (∀ r ∈ rows, r.length = s) → rows.flatten.length = rows.length * s
  | [], _ => by simp
  | r :: rs, h => by rw [List.flatten_cons, List.length_append, flat_len s rs (fun q hq => h q (by simp [hq])), h r (by simp), List.length_cons, Nat.add_mul]; omega
/-- The cells around one row. -/
theorem rows_split {s i m : Nat} {rows : List (List Value)} {cur row : List Value} (ht : cur.take (m * s) = rows.flatten) (hm : rows.length = m) (hr : ∀ r ∈ rows, r.length = s) (hi : rows[i]? = some row) :
    ∃ A B, cur = A ++ (row ++ B) ∧ A.length = i * s ∧ ∀ row', row'.length = s → (A ++ (row' ++ B)).take (m * s) = (rows.set i row').flatten := by
  have hlt := (List.getElem?_eq_some_iff.1 hi).1
  have hrow : rows[i] = row := (List.getElem?_eq_some_iff.1 hi).2
  have e : rows = rows.take i ++ row :: rows.drop (i + 1) := by rw [← hrow]; simp
  have hA : (rows.take i).flatten.length = i * s := by rw [flat_len s _ (fun q hq => hr q (List.mem_of_mem_take hq)), List.length_take, Nat.min_eq_left (by omega)]
  have hC : (rows.drop (i + 1)).flatten.length = (m - (i + 1)) * s := by rw [flat_len s _ (fun q hq => hr q (List.mem_of_mem_drop hq)), List.length_drop, hm]
  refine ⟨(rows.take i).flatten, (rows.drop (i + 1)).flatten ++ cur.drop (m * s), ?_, hA, fun row' h' => ?_⟩
  · have h1 : cur = cur.take (m * s) ++ cur.drop (m * s) := by simp
    rw [ht] at h1
    have h2 : rows.flatten = (rows.take i).flatten ++ (row ++ (rows.drop (i + 1)).flatten) := by
      have := congrArg List.flatten e
      rw [List.flatten_append, List.flatten_cons] at this
      exact this
    rw [h2] at h1
    simp only [List.append_assoc] at h1
    exact h1
  · have hs : (rows.set i row').flatten = (rows.take i).flatten ++ (row' ++ (rows.drop (i + 1)).flatten) := by
      rw [List.set_eq_take_append_cons_drop, if_pos hlt, List.flatten_append, List.flatten_cons]
    have hl : ((rows.take i).flatten ++ (row' ++ (rows.drop (i + 1)).flatten)).length = m * s := by
      rw [List.length_append, List.length_append, hA, h', hC]
      have : m * s = i * s + (s + (m - (i + 1)) * s) := by
        have h3 : m = i + (1 + (m - (i + 1))) := by omega
        conv => lhs; rw [h3, Nat.add_mul, Nat.add_mul, Nat.one_mul]
      omega
    rw [hs, show (rows.take i).flatten ++ (row' ++ ((rows.drop (i + 1)).flatten ++ cur.drop (m * s))) = ((rows.take i).flatten ++ (row' ++ (rows.drop (i + 1)).flatten)) ++ cur.drop (m * s) from by simp only [List.append_assoc], ← hl]
    exact List.take_left
section
variable {α : Type} {A B row cs : List α} {k q : Nat} {v : α}
theorem mid_get (hA : A.length = q) (hk : row[k]? = some v) : (A ++ (row ++ B))[q + k]? = some v := by
  have := (List.getElem?_eq_some_iff.1 hk).1
  rw [List.getElem?_append_right (by omega), show q + k - A.length = k from by omega, List.getElem?_append_left this, hk]
theorem mid_set (hA : A.length = q) (hk : k < row.length) : (A ++ (row ++ B)).set (q + k) v = A ++ (row.set k v ++ B) := by
  rw [List.set_append_right _ _ (by omega), show q + k - A.length = k from by omega, List.set_append_left _ _ hk]
theorem mid_part {n : Nat} (hA : A.length = q) (hc : (row.drop k).take n = cs) (hl : k + n ≤ row.length) : ((A ++ (row ++ B)).drop (q + k)).take n = cs := by
  rw [← hc, ← List.drop_drop, ← hA, List.drop_left, List.drop_append_of_le_length (by omega), List.take_append_of_le_length (by simp; omega)]
end
theorem mid_over {A B row cs : List Value} {k q : Nat} (hA : A.length = q) (hl : k + cs.length ≤ row.length) : over (A ++ (row ++ B)) (q + k) cs = A ++ (over row k cs ++ B) := by
  unfold over
  rw [List.take_append, List.drop_append, ← hA, show A.length + k - A.length = k from by omega, List.take_of_length_le (l := A) (by omega), List.drop_eq_nil_of_le (as := A) (by omega), List.nil_append,
    show A.length + k + cs.length - A.length = k + cs.length from by omega, List.take_append_of_le_length (by omega), List.drop_append_of_le_length (by omega)]
  simp only [List.append_assoc]

theorem Own.inv (h : Own e sz a n cap xs f) (h0 : 0 < n) : ∃ g cur, a = some ⟨g, 0, none⟩ ∧ f = [(g, .cells (List.toArray cur) e (0, 0))] ∧ n ≤ cap ∧ cap ≤ maxLen ∧ cur.length = cap * sz ∧ cur.take (n * sz) = xs := by
  cases h with
  | nil => omega
  | row h1 h2 h3 h4 => exact ⟨_, _, rfl, rfl, h1, h2, h3, h4⟩
/-- One element of an owned slice, by itself. -/
theorem Own.split {X : Type} {enc : X → List Value} {xs : List X} {i : Nat} {x : X} (h : Own e sz a xs.length cap (xs.map enc).flatten f) (hl : ∀ x, (enc x).length = sz) (hi : xs[i]? = some x) :
    ∃ g A B, a = some ⟨g, 0, none⟩ ∧ f = [(g, .cells (List.toArray (A ++ (enc x ++ B))) e (0, 0))] ∧ A.length = i * sz ∧ ∀ x', Own e sz a xs.length cap ((xs.set i x').map enc).flatten [(g, .cells (List.toArray (A ++ (enc x' ++ B))) e (0, 0))] := by
  have hlt := (List.getElem?_eq_some_iff.1 hi).1
  obtain ⟨g, cur, rfl, rfl, h1, h2, h3, h4⟩ := h.inv (by omega)
  obtain ⟨A, B, rfl, hA, hr⟩ := rows_split (row := enc x) (i := i) h4 (by simp) (by simp [hl]) (by simp [hi])
  refine ⟨g, A, B, rfl, rfl, hA, fun x' => .row h1 h2 ?_ ?_⟩
  · simp only [List.length_append, hl] at h3 ⊢; exact h3
  · rw [hr (enc x') (hl x'), List.map_set]

/-- A slice literal of one element of one cell. -/
theorem op_build1 {t : TypeId} {x : Operand} {v z : Value} [H : Und P t (.slice e)] [Z : Zero P e [z]] [S : Size P e 1] (hg : Goes w0 M Fs w)
    (h : ∀ b w', Goes w0 M ([(b, .cells [[v]].flatten.toArray e (0, 0))] :: Fs) w' → WO P r ops Q os (put l dst (.slice (some ⟨b, 0, none⟩) 1 1)) d w') (hx : ev l x = v := by first | (simp only [ev, gt, put, List.set_cons_succ, List.set_cons_zero, Nat.zero_add, Nat.add_zero, Nat.mul_one, Nat.reduceAdd, Nat.reduceMul, Int.toNat_natCast, Int.reduceToNat, List.map_cons, List.map_nil, List.cons_append, List.nil_append]; exact rfl) | simp only [ev, gt, put, List.set_cons_succ, List.set_cons_zero, Nat.zero_add, Nat.add_zero, Nat.mul_one, Nat.reduceAdd, Nat.reduceMul, Int.toNat_natCast, Int.reduceToNat, List.map_cons, List.map_nil, List.cons_append, List.nil_append]) (hv : v.cells = #[v] := by first | rfl | assumption) :
    WO P r ops Q (⟨dst, .buildSlice t 1 #[(0, x)], ty, pos, af, none⟩ :: os) l d w := by
  have hzo := Z.out
  have hso := S.out
  cases hi : P.info? e with
  | none => simp [hi] at hzo
  | some ie =>
    simp [hi] at hzo hso
    obtain ⟨zz, hz, hzc⟩ := hzo
    have hcs : zz.cells = #[z] := by apply Array.ext'; rw [hzc]
    refine WO.val (by simp) ?_ rfl (h w.heap.size _ (hg.alloc _))
    have hr : Array.range 1 = #[0] := by apply Array.ext'; simp [List.range_succ]
    simp [execOp, Instr.buildSlice, run_underlying H.out, sizeOf, typeInfo, hi, hso, zeroValue, hz, hcs, St_eval, hx, Instr.fill, hv, newRow, hr]
end
end Go.Proofs.YtkdidefghbeabaaGreat
namespace Go.Proofs.YtkdidefghbeabaaGreat
open Go Go.RowKit
set_option linter.unusedSimpArgs false
set_option linter.unusedVariables false

/-- Of a method of a type: its function; whether it takes the pointer itself. -/
class Meth (P : Program) (t : TypeId) (name : String) (f : outParam FuncId) (ptr : outParam Bool) : Prop where
  out : ((P.info? t).bind fun i => (i.methods.find? (·.name == name)).map fun m => (m.path.isEmpty, m.func)) = some (true, some (f, ptr))

section
variable {P : Program} {r : Option Nat} {Q : Exit → Act → World → Prop} {l l' : List Value} {d : List Deferred} {w w' w0 : World} {M : List Nat} {Fs Fs' : List Frag}
variable {ops : Array Oper} {os : List Oper} {dst : Option Tmp} {ty : TypeId} {pos : String} {af : Array Edge} {v : Value}
variable {t xt e : TypeId} {x : Operand} {name : String} {f : FuncId} {a : Addr}

theorem meth_get {ptr : Bool} (h : Meth P t name f ptr) : ∃ i m, P.info? t = some i ∧ i.methods.find? (·.name == name) = some m ∧ m.path = #[] ∧ m.func = some (f, ptr) := by
  have h1 := h.out
  cases hi : P.info? t with
  | none => rw [hi] at h1; cases h1
  | some i =>
    rw [hi] at h1
    simp only [Option.bind_some] at h1
    cases hm : i.methods.find? (·.name == name) with
    | none => rw [hm] at h1; cases h1
    | some m =>
      rw [hm] at h1
      simp only [Option.map_some, Option.some.injEq, Prod.mk.injEq, Array.isEmpty_iff] at h1
      exact ⟨i, m, rfl, hm, h1.1, h1.2⟩

theorem method_ptr {n : Nat} [h : Meth P t name f true] [hu : Und P t (.pointer e)] : (method (n + 1) t (.pointer (some a)) name).run P w = .ok (f, .pointer (some a)) w := by
  obtain ⟨i, m, h1, h2, h3, h4⟩ := meth_get h
  unfold method
  simp [typeInfo, h1, h2, h3, h4, follow, receiverAt, run_underlying hu.out, Place.get]
theorem wrapChk (t : TypeId) (a : Addr) (s1 s2 : String) : Builtin.ssaWrapNilChk_ #[t] t #[.pointer (some a), strVal s1, strVal s2] = pure (.pointer (some a)) := rfl
theorem method_val {n : Nat} [h : Meth P t name f false] [hu : Und P t (.pointer e)] [hs : Scal P e] (hc : w.cell? a = some v) : (method (n + 1) t (.pointer (some a)) name).run P w = .ok (f, v) w := by
  obtain ⟨i, m, h1, h2, h3, h4⟩ := meth_get h
  unfold method
  simp [typeInfo, h1, h2, h3, h4, follow, receiverAt, run_underlying hu.out, Place.get, wrapChk, asAddr, loadVar, hs.run, hc]
theorem fuel_succ (P : Program) : ∃ n, P.types.size + Made.depth = n + 1 := ⟨P.types.size + 99, rfl⟩

/-- A method called through an interface that holds a pointer: the pointer's method. -/
theorem op_invokeP {fn : Func} {as : List Operand} {vs : List Value} {ts : Array TypeId} {T : TypeId} {R : Ending → World → Prop} [H : Fun P f fn] [h : Meth P t name f true] [hu : Und P t (.pointer e)] (hc : Calls P f (.pointer (some a) :: vs).toArray w R)
    (hR : ∀ e w'', R e w'' → ∃ v, e = .returned v ∧ WO P r ops Q os (put l dst v) d w'') (hx : ev l x = .iface t (.pointer (some a)) := by first | (simp only [ev, gt, put, List.set_cons_succ, List.set_cons_zero, Nat.zero_add, Nat.add_zero, Nat.mul_one, Nat.reduceAdd, Nat.reduceMul, Int.toNat_natCast, Int.reduceToNat, List.map_cons, List.map_nil, List.cons_append, List.nil_append]; exact rfl) | simp only [ev, gt, put, List.set_cons_succ, List.set_cons_zero, Nat.zero_add, Nat.add_zero, Nat.mul_one, Nat.reduceAdd, Nat.reduceMul, Int.toNat_natCast, Int.reduceToNat, List.map_cons, List.map_nil, List.cons_append, List.nil_append]) (ha : as.map (ev l) = vs := by first | (simp only [ev, gt, put, List.set_cons_succ, List.set_cons_zero, Nat.zero_add, Nat.add_zero, Nat.mul_one, Nat.reduceAdd, Nat.reduceMul, Int.toNat_natCast, Int.reduceToNat, List.map_cons, List.map_nil, List.cons_append, List.nil_append]; exact rfl) | simp only [ev, gt, put, List.set_cons_succ, List.set_cons_zero, Nat.zero_add, Nat.add_zero, Nat.mul_one, Nat.reduceAdd, Nat.reduceMul, Int.toNat_natCast, Int.reduceToNat, List.map_cons, List.map_nil, List.cons_append, List.nil_append]) :
    WO P r ops Q (⟨dst, .call { callee := .invoke x name, args := as.toArray, argTypes := ts }, T, pos, af, none⟩ :: os) l d w := by
  refine WO.enter (by simp) ?_ hc hR
  obtain ⟨n, hn⟩ := fuel_succ P
  have : (St l d).eval = ev l := funext (St_eval l d)
  have e1 : (callFunc f (#[.pointer (some a)] ++ vs.toArray)).run P w = .ok (.enter f (.pointer (some a) :: vs).toArray) w := by
    simp only [callFunc, Sem.run_bind, run_program, Result.andThen_ok, H.out, H.named, H.body, Bool.false_eq_true, if_false]; simp
  have e2 := method_ptr (P := P) (w := w) (a := a) (n := n) (t := t) (name := name) (f := f) (e := e)
  simp [execOp, resolve, this, hx, invoke, callMethod, hn, e2]
  rw [ha, show as.length = vs.length from by rw [← ha]; simp, List.take_length]
  simpa using e1
/-- .. the method of what it points to. -/
theorem op_invokeV {fn : Func} {as : List Operand} {vs : List Value} {ts : Array TypeId} {T : TypeId} {R : Ending → World → Prop} [H : Fun P f fn] [h : Meth P t name f false] [hu : Und P t (.pointer e)] [hs : Scal P e] (hv : w.cell? a = some v) (hc : Calls P f (v :: vs).toArray w R)
    (hR : ∀ e w'', R e w'' → ∃ v, e = .returned v ∧ WO P r ops Q os (put l dst v) d w'') (hx : ev l x = .iface t (.pointer (some a)) := by first | (simp only [ev, gt, put, List.set_cons_succ, List.set_cons_zero, Nat.zero_add, Nat.add_zero, Nat.mul_one, Nat.reduceAdd, Nat.reduceMul, Int.toNat_natCast, Int.reduceToNat, List.map_cons, List.map_nil, List.cons_append, List.nil_append]; exact rfl) | simp only [ev, gt, put, List.set_cons_succ, List.set_cons_zero, Nat.zero_add, Nat.add_zero, Nat.mul_one, Nat.reduceAdd, Nat.reduceMul, Int.toNat_natCast, Int.reduceToNat, List.map_cons, List.map_nil, List.cons_append, List.nil_append]) (ha : as.map (ev l) = vs := by first | (simp only [ev, gt, put, List.set_cons_succ, List.set_cons_zero, Nat.zero_add, Nat.add_zero, Nat.mul_one, Nat.reduceAdd, Nat.reduceMul, Int.toNat_natCast, Int.reduceToNat, List.map_cons, List.map_nil, List.cons_append, List.nil_append]; exact rfl) | simp only [ev, gt, put, List.set_cons_succ, List.set_cons_zero, Nat.zero_add, Nat.add_zero, Nat.mul_one, Nat.reduceAdd, Nat.reduceMul, Int.toNat_natCast, Int.reduceToNat, List.map_cons, List.map_nil, List.cons_append, List.nil_append]) :
    WO P r ops Q (⟨dst, .call { callee := .invoke x name, args := as.toArray, argTypes := ts }, T, pos, af, none⟩ :: os) l d w := by
  refine WO.enter (by simp) ?_ hc hR
  obtain ⟨n, hn⟩ := fuel_succ P
  have : (St l d).eval = ev l := funext (St_eval l d)
  have e1 : (callFunc f (#[v] ++ vs.toArray)).run P w = .ok (.enter f (v :: vs).toArray) w := by
    simp only [callFunc, Sem.run_bind, run_program, Result.andThen_ok, H.out, H.named, H.body, Bool.false_eq_true, if_false]; simp
  have e2 := method_val (P := P) (n := n) (t := t) (name := name) (f := f) (e := e) hv
  simp [execOp, resolve, this, hx, invoke, callMethod, hn, e2]
  rw [ha, show as.length = vs.length from by rw [← ha]; simp, List.take_length]
  simpa using e1

class Conc (P : Program) (t : TypeId) : Prop where
  out : P.concrete t = true
theorem x_makeIface [h : Conc P t] (hx : ev l x = v := by first | (simp only [ev, gt, put, List.set_cons_succ, List.set_cons_zero, Nat.zero_add, Nat.add_zero, Nat.mul_one, Nat.reduceAdd, Nat.reduceMul, Int.toNat_natCast, Int.reduceToNat, List.map_cons, List.map_nil, List.cons_append, List.nil_append]; exact rfl) | simp only [ev, gt, put, List.set_cons_succ, List.set_cons_zero, Nat.zero_add, Nat.add_zero, Nat.mul_one, Nat.reduceAdd, Nat.reduceMul, Int.toNat_natCast, Int.reduceToNat, List.map_cons, List.map_nil, List.cons_append, List.nil_append]) : Runs P l (.makeInterface t x) ty w (.iface t v) :=
  ⟨by simp, fun d dst pos af => by simp [execOp, St_eval, hx, run_makeInterface w t v h.out]⟩
theorem op_mkIface [h : Conc P t] (hk : WO P r ops Q os (put l dst (.iface t v)) d w) (hx : ev l x = v := by first | (simp only [ev, gt, put, List.set_cons_succ, List.set_cons_zero, Nat.zero_add, Nat.add_zero, Nat.mul_one, Nat.reduceAdd, Nat.reduceMul, Int.toNat_natCast, Int.reduceToNat, List.map_cons, List.map_nil, List.cons_append, List.nil_append]; exact rfl) | simp only [ev, gt, put, List.set_cons_succ, List.set_cons_zero, Nat.zero_add, Nat.add_zero, Nat.mul_one, Nat.reduceAdd, Nat.reduceMul, Int.toNat_natCast, Int.reduceToNat, List.map_cons, List.map_nil, List.cons_append, List.nil_append]) : WO P r ops Q (⟨dst, .makeInterface t x, ty, pos, af, none⟩ :: os) l d w :=
  WO.x hk (x_makeIface hx) rfl
theorem x_assertInt {k : IntKind} [hu : Und P t (.int k)] (hx : ev l x = .iface t v := by first | (simp only [ev, gt, put, List.set_cons_succ, List.set_cons_zero, Nat.zero_add, Nat.add_zero, Nat.mul_one, Nat.reduceAdd, Nat.reduceMul, Int.toNat_natCast, Int.reduceToNat, List.map_cons, List.map_nil, List.cons_append, List.nil_append]; exact rfl) | simp only [ev, gt, put, List.set_cons_succ, List.set_cons_zero, Nat.zero_add, Nat.add_zero, Nat.mul_one, Nat.reduceAdd, Nat.reduceMul, Int.toNat_natCast, Int.reduceToNat, List.map_cons, List.map_nil, List.cons_append, List.nil_append]) : Runs P l (.typeAssert x xt t true) ty w (.tuple #[v, .bool true]) := by
  refine ⟨by simp, fun d dst pos af => ?_⟩
  simp [execOp, St_eval, hx, Instr.typeAssert, run_underlying hu.out]
/-- Quotients toward zero. -/
theorem x_quoT {t' : TypeId} {x y : Operand} {a b : Int} {ki : IntKind} [Und P t (.int ki)] (hx : ev l x = .int .i64 a := by first | (simp only [ev, gt, put, List.set_cons_succ, List.set_cons_zero, Nat.zero_add, Nat.add_zero, Nat.mul_one, Nat.reduceAdd, Nat.reduceMul, Int.toNat_natCast, Int.reduceToNat, List.map_cons, List.map_nil, List.cons_append, List.nil_append]; exact rfl) | simp only [ev, gt, put, List.set_cons_succ, List.set_cons_zero, Nat.zero_add, Nat.add_zero, Nat.mul_one, Nat.reduceAdd, Nat.reduceMul, Int.toNat_natCast, Int.reduceToNat, List.map_cons, List.map_nil, List.cons_append, List.nil_append]) (hy : ev l y = .int .i64 b := by first | (simp only [ev, gt, put, List.set_cons_succ, List.set_cons_zero, Nat.zero_add, Nat.add_zero, Nat.mul_one, Nat.reduceAdd, Nat.reduceMul, Int.toNat_natCast, Int.reduceToNat, List.map_cons, List.map_nil, List.cons_append, List.nil_append]; exact rfl) | simp only [ev, gt, put, List.set_cons_succ, List.set_cons_zero, Nat.zero_add, Nat.add_zero, Nat.mul_one, Nat.reduceAdd, Nat.reduceMul, Int.toNat_natCast, Int.reduceToNat, List.map_cons, List.map_nil, List.cons_append, List.nil_append]) (hb : b ≠ 0) (hr : -9223372036854775808 ≤ a.tdiv b ∧ a.tdiv b ≤ 9223372036854775807) :
    Runs P l (.binOp .quo t x y t') ty w (.int .i64 (a.tdiv b)) := by
  refine ⟨by simp, fun d dst pos af => ?_⟩
  simp [execOp, eqGuard, St_eval, hx, hy, binOp, Op.intDiv, hb, IntWalk.i64_in _ hr]

/-- The length of a map. -/
theorem x_lenMap {kt et T : TypeId} {b clock : Nat} {es : Array MapEntry} [H : Und P t (.map kt et)] (hb : w.heap[b]? = some (.map es clock)) (hx : ev l x = .map (some b) := by first | (simp only [ev, gt, put, List.set_cons_succ, List.set_cons_zero, Nat.zero_add, Nat.add_zero, Nat.mul_one, Nat.reduceAdd, Nat.reduceMul, Int.toNat_natCast, Int.reduceToNat, List.map_cons, List.map_nil, List.cons_append, List.nil_append]; exact rfl) | simp only [ev, gt, put, List.set_cons_succ, List.set_cons_zero, Nat.zero_add, Nat.add_zero, Nat.mul_one, Nat.reduceAdd, Nat.reduceMul, Int.toNat_natCast, Int.reduceToNat, List.map_cons, List.map_nil, List.cons_append, List.nil_append]) :
    Runs P l (.call { callee := .builtin .len, args := #[x], argTypes := #[t] }) T w (.int .i64 es.size) := by
  refine ⟨by simp, fun _ _ _ _ => ?_⟩
  have hg := MapKept.run_getObj_map (P := P) hb
  simp [execOp, resolve, invoke, builtin, Builtin.len_, St_eval, hx, run_underlying H.out, goInt, hg]
end

theorem Goes.two {w0 w : World} {M : List Nat} {f g : Frag} {Fs : List Frag} (hg : Goes w0 M (f :: g :: Fs) w) : Goes w0 M [f, g] w :=
  hg.sub (by simp only [List.flatten_cons, List.flatten_nil, List.append_nil, ← List.append_assoc]; exact List.sublist_append_left _ _)
theorem Cells.part {w : World} {b k j n : Nat} {cs c : List Value} (h : Cells w ⟨b, k, none⟩ cs) (hc : (cs.drop j).take n = c) : Cells w ⟨b, k + j, none⟩ c := by
  intro q v hq
  rw [← hc, List.getElem?_take] at hq
  split at hq
  · rw [List.getElem?_drop] at hq
    have := h (j + q) v hq
    rw [add_lit] at this ⊢
    rw [show k + j + q = k + (j + q) from by omega]
    exact this
  · cases hq

/-- Rows that a fragment bears, wherever it lies. -/
def Rd (f : Frag) (a : Option Addr) (cap sz : Nat) (rows : List (List Value)) : Prop := ∀ w : World, (∀ p ∈ f, w.heap[p.1]? = some p.2) → Sl w a cap sz rows
section
variable {w0 w : World} {M : List Nat} {Fs : List Frag} {f : Frag} {a : Option Addr} {cap sz : Nat} {rows : List (List Value)} {e : TypeId}
theorem Rd.sl (h : Rd f a cap sz rows) (hg : Goes w0 M (f :: Fs) w) : Sl w a cap sz rows := h w (fun p hp => hg.own p (by simp [hp]))
theorem Rd.part (h : Rd f a cap sz rows) (i m : Nat) (hi : i + m ≤ rows.length) : Rd f (moved a i sz cap) (cap - i) sz ((rows.drop i).take m) := fun w hw => (h w hw).part i m hi
theorem Rd.nil : Rd [] none 0 sz [] := fun w _ => ⟨Nat.le_refl _, by simp, fun _ => rfl, fun p hp => by cases hp⟩
theorem Own.rd {n : Nat} (h : Own e sz a n cap rows.flatten f) (hr : ∀ r ∈ rows, r.length = sz) (hn : rows.length = n) (hl : n ≤ 140737488351232) : Rd f a cap sz rows := fun w hw => by
  refine h.sl (w0 := w) (M := keys f) (Fs := []) (Owns.goes ⟨hw, ?_⟩) hr hn hl
  generalize rows.flatten = xs at h
  cases h <;> simp [keys]
end
end Go.Proofs.YtkdidefghbeabaaGreat
namespace Go.Proofs.YtkdidefghbeabaaGreat
open Go Go.RowKit
set_option linter.unusedSimpArgs false
set_option linter.unusedVariables false

def isMove (ops : Array Oper) (k : Nat) : Bool := match ops[k]? with
  | some ⟨_, .move _, _, _, _, none⟩ => true
  | _ => false
section
variable {F : Fence} {n : Nat} {P : Program} {ops : Array Oper} {Q : Exit → Act → World → Prop} {md : Region.Mode} {S : World → Prop} {late : List Nat}

theorem wpOpIn_move {j : Nat} (hro : F.round = none) (hm : isMove ops j = true) {K : Act → World → Prop} {a : Act} {w : World} (h : wpOpIn F n P ops Q j K a w) : wpOpIn F n P ops Q j (fun a' w' => w' = w ∧ K a' w') a w := by
  unfold isMove at hm
  split at hm
  · rename_i dst x ty pos af ho
    unfold wpOpIn at *
    simp only [ho, Region.wanted, if_true] at h ⊢
    unfold Oper.wpIn at *
    refine ⟨h.1, ?_⟩
    have h2 := h.2
    rw [hro, Oper.semAt_none] at h2 ⊢
    have e : (execOp a.eval ⟨dst, .move x, ty, pos, af, none⟩).run P w = .ok (.value (a.eval x)) w := by simp [execOp]
    rw [e] at h2 ⊢
    simp only [Oper.uponIn] at h2 ⊢
    exact ⟨trivial, h2⟩
  · cases hm

def heldM (md : Region.Mode) (ops : Array Oper) (late : List Nat) (i : Nat) : Bool := late.all fun k => k == i || isMove ops k || reach md ops i ops.size k

theorem wpAnyS_firstM {i : Nat} {oi : Oper} {v : Value} (hro : F.round = none) (hi : ops[i]? = some oi) (hsel : ∀ (j : Nat) (o : Oper) cs b, ops[j]? = some o → o.op ≠ .select cs b)
    (hQ : ∀ c a w, Q (.panic c) (a.put oi.dst v) w → Q (.panic c) a w) (hl : heldM md ops late i = true) :
    ∀ (fuel : Nat) (listed : Array Bool) (a : Act) (w : World), Closed md ops listed → S w →
      (∀ j oj, ops[j]? = some oj → j ≠ i → listed.getD j true = false → (∀ e ∈ oj.after, Region.binds md e = true → e.on ≠ i) → oi.apart ops oj = true) →
      i ∈ Region.ready md ops listed → YieldsS P ops S oi v a →
      wpAnyS F n P md ops Q S late fuel (listed.setIfInBounds i true) (a.put oi.dst v) w → wpAnyS F n P md ops Q S late (fuel + 1) listed a w := by
  intro fuel
  induction fuel with
  | zero =>
    intro listed a w hcl hS _ hr hy H
    refine ⟨fun h => (by rw [h] at hr; cases hr), fun j hj => ?_⟩
    by_cases hji : j = i
    · subst hji; exact hy.wpOpIn hro hi hS ⟨fun _ => hS, H⟩
    · have := ready_mono hj hji
      rw [H.1] at this
      cases this
  | succ fuel ih =>
    intro listed a w hcl hS hfree hr hy H
    refine ⟨fun h => (by rw [h] at hr; cases hr), fun j hj => ?_⟩
    by_cases hji : j = i
    · subst hji; exact hy.wpOpIn hro hi hS ⟨fun _ => hS, H⟩
    · have h1 := H.2 j (ready_mono hj hji)
      obtain ⟨hjun, oj, hoj, hall⟩ := mem_ready.1 hj
      have hnot : ∀ e ∈ oj.after, Region.binds md e = true → e.on ≠ i := fun e he hb heq => by
        have h1 := hall e he hb
        have h0 := (mem_ready.1 hr).1
        rw [heq] at h1
        rcases Nat.lt_or_ge i listed.size with h' | h'
        · simp [h'] at h0 h1; rw [h0] at h1; cases h1
        · simp [Array.getElem?_eq_none h'] at h1
      have hnl : isMove ops j = true ∨ late.contains j = false := by
        cases hc : late.contains j with
        | false => exact .inr rfl
        | true =>
          have hmem : j ∈ late := by simpa using hc
          have h3 := List.all_eq_true.1 hl j hmem
          simp only [Bool.or_eq_true, beq_iff_eq] at h3
          rcases h3 with (h3 | h3) | h3
          · exact absurd h3 hji
          · exact .inl h3
          · have h4 := hcl.reach _ j oj hoj hall h3
            have h0 := (mem_ready.1 hr).1
            rcases Nat.lt_or_ge i listed.size with h' | h'
            · simp [h'] at h0 h4; rw [h0] at h4; cases h4
            · simp [Array.getElem?_eq_none h'] at h4
      have h2 := wpOpIn_putS hro hoj (hfree j oj hoj hji hjun hnot) (fun cs b => hsel i oi cs b hi) (fun cs b => hsel j oj cs b hoj) hQ hy h1
      have hfree' : ∀ k ok, ops[k]? = some ok → k ≠ i → (listed.setIfInBounds j true).getD k true = false →
          (∀ e ∈ ok.after, Region.binds md e = true → e.on ≠ i) → oi.apart ops ok = true := fun k ok hk hki hun hno => by
        refine hfree k ok hk hki ?_ hno
        by_cases hjk : j = k
        · subst hjk; exact hjun
        · rw [getD_set_ne true hjk] at hun; exact hun
      rcases hnl with hmv | hnl
      · refine wpOpIn_mono (fun a' w' h3 => ?_) (wpOpIn_move hro hmv h2)
        obtain ⟨rfl, h3⟩ := h3
        refine ⟨fun _ => hS, ih (listed.setIfInBounds j true) a' w' (hcl.set hj) hS hfree' (ready_mono hr (Ne.symm hji)) h3.1 ?_⟩
        rw [Array.setIfInBounds_comm _ _ hji]
        exact h3.2.2
      · refine wpOpIn_mono (fun a' w' h3 => ⟨h3.2.1, ih (listed.setIfInBounds j true) a' w' (hcl.set hj) (h3.2.1 hnl) hfree' (ready_mono hr (Ne.symm hji)) h3.1 ?_⟩) h2
        rw [Array.setIfInBounds_comm _ _ hji]
        exact h3.2.2
end

section
variable {P : Program} {Q : Exit → Act → World → Prop} {S : World → Prop} {late : List Nat} {l l' : List Value} {d : List Deferred} {w w0 : World} {M : List Nat} {Fs : List Frag} {fuel : Nat} {listed listed' : List Bool}
variable {ops : Array Oper} {os : List Oper} {dst : Option Tmp} {ty : TypeId} {pos : String} {af : Array Edge} {v : Value}
theorem is_mkI {x : Operand} {t : TypeId} (h : Runs P l (.makeInterface t x) ty w v) : Runs P l (.makeInterface t x) ty w v := h
theorem WA.passM (i : Nat) {op : Op} (hS : S w) (h : WA P ops Q S late fuel (listed.set i true) l' d w) (ho : ops[i]? = some ⟨dst, op, ty, pos, af, none⟩ := by exact rfl) (hx : ∀ w, S w → Runs P l op ty w v := by intro w hs; first | (with_reducible exact k1 hs (by first | (simp only [ev, gt, put, List.set_cons_succ, List.set_cons_zero, Nat.zero_add, Nat.add_zero, Nat.mul_one, Nat.reduceAdd, Nat.reduceMul, Int.toNat_natCast, Int.reduceToNat, List.map_cons, List.map_nil, List.cons_append, List.nil_append]; exact rfl) | simp only [ev, gt, put, List.set_cons_succ, List.set_cons_zero, Nat.zero_add, Nat.add_zero, Nat.mul_one, Nat.reduceAdd, Nat.reduceMul, Int.toNat_natCast, Int.reduceToNat, List.map_cons, List.map_nil, List.cons_append, List.nil_append]) (by first | (simp only [ev, gt, put, List.set_cons_succ, List.set_cons_zero, Nat.zero_add, Nat.add_zero, Nat.mul_one, Nat.reduceAdd, Nat.reduceMul, Int.toNat_natCast, Int.reduceToNat, List.map_cons, List.map_nil, List.cons_append, List.nil_append]; exact rfl) | simp only [ev, gt, put, List.set_cons_succ, List.set_cons_zero, Nat.zero_add, Nat.add_zero, Nat.mul_one, Nat.reduceAdd, Nat.reduceMul, Int.toNat_natCast, Int.reduceToNat, List.map_cons, List.map_nil, List.cons_append, List.nil_append])) | (with_reducible exact k2 hs (by first | (simp only [ev, gt, put, List.set_cons_succ, List.set_cons_zero, Nat.zero_add, Nat.add_zero, Nat.mul_one, Nat.reduceAdd, Nat.reduceMul, Int.toNat_natCast, Int.reduceToNat, List.map_cons, List.map_nil, List.cons_append, List.nil_append]; exact rfl) | simp only [ev, gt, put, List.set_cons_succ, List.set_cons_zero, Nat.zero_add, Nat.add_zero, Nat.mul_one, Nat.reduceAdd, Nat.reduceMul, Int.toNat_natCast, Int.reduceToNat, List.map_cons, List.map_nil, List.cons_append, List.nil_append])) | (with_reducible exact k3 hs (by first | (simp only [ev, gt, put, List.set_cons_succ, List.set_cons_zero, Nat.zero_add, Nat.add_zero, Nat.mul_one, Nat.reduceAdd, Nat.reduceMul, Int.toNat_natCast, Int.reduceToNat, List.map_cons, List.map_nil, List.cons_append, List.nil_append]; exact rfl) | simp only [ev, gt, put, List.set_cons_succ, List.set_cons_zero, Nat.zero_add, Nat.add_zero, Nat.mul_one, Nat.reduceAdd, Nat.reduceMul, Int.toNat_natCast, Int.reduceToNat, List.map_cons, List.map_nil, List.cons_append, List.nil_append])) | (with_reducible apply is_mkI; exact x_makeIface) | (first | ((with_reducible apply is_move); exact x_move) | ((with_reducible apply is_assign); exact x_assign) | ((with_reducible apply is_load); first | exact x_load | exact x_loadA) | ((with_reducible apply is_bin); first | exact x_cmp | exact x_arith | exact x_eqBool | exact x_eqStr | exact x_eqPtrNil | exact x_eqMapNil | exact x_eqSliceNil | exact x_eqAgg | exact x_quo | exact x_rem | exact x_addStr | exact x_eqFuncNil) | ((with_reducible apply is_fieldAddr); exact x_fieldAddr) | ((with_reducible apply is_indexAddr); first | exact x_indexAddr | exact x_indexAddrArr) | ((with_reducible apply is_field); first | exact x_field1 | exact x_fieldA) | ((with_reducible apply is_un); first | exact x_not | exact x_neg) | ((with_reducible apply is_pick); exact x_pick) | ((with_reducible apply is_builtin); first | exact x_lenSlice | exact x_lenString | exact x_min | exact x_max) | ((with_reducible apply is_extract); exact x_extract) | ((with_reducible apply is_nilCheck); exact x_nilCheck) | ((with_reducible apply is_makeFunc); exact x_makeFunc) | ((with_reducible apply is_build); exact x_build) | ((with_reducible apply is_convert); exact x_convInt) | ((with_reducible apply is_index); first | exact x_indexArr | exact x_indexStrL) | ((with_reducible apply is_slice); first | exact x_sliceLH | exact x_sliceH | exact x_sliceL | exact x_sliceHM))) (hl : put l dst v = l' := by first | (simp only [ev, gt, put, List.set_cons_succ, List.set_cons_zero, Nat.zero_add, Nat.add_zero, Nat.mul_one, Nat.reduceAdd, Nat.reduceMul, Int.toNat_natCast, Int.reduceToNat, List.map_cons, List.map_nil, List.cons_append, List.nil_append]; exact rfl) | simp only [ev, gt, put, List.set_cons_succ, List.set_cons_zero, Nat.zero_add, Nat.add_zero, Nat.mul_one, Nat.reduceAdd, Nat.reduceMul, Int.toNat_natCast, Int.reduceToNat, List.map_cons, List.map_nil, List.cons_append, List.nil_append])
    (hb : ∀ w, Oper.about P w (St l d).eval ⟨dst, op, ty, pos, af, none⟩ = none := by intro w; exact rfl)
    (hs : Region.noSelect ops = true := by kernel_rfl) (hf : Region.free .any ops listed.toArray i = true := by kernel_rfl) (hr : (Region.ready .any ops listed.toArray).contains i = true := by kernel_rfl) (hh : heldM .any ops late i = true := by kernel_rfl) (hcl : closedB .any ops listed.toArray = true := by kernel_rfl) :
    WA P ops Q S late (fuel + 1) listed l d w := by
  refine ⟨wpAnyS_firstM rfl ho (Region.noSelect_spec hs) nq_put hh fuel _ _ _ (closed_of hcl) hS (Region.free_spec ho hf) (by simpa using hr) (v := v) ⟨.inl ⟨rfl, fun w hw => (hx w hw).out d dst pos af⟩, hb⟩ ?_⟩
  have := h.out
  rw [← hl, ← St_put] at this
  simpa using this
end
end Go.Proofs.YtkdidefghbeabaaGreat
