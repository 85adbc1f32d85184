/- Growable slices that are owned; append. -/
import Derived.Test.YtdjepfpmoeecaaaLoops
import Derived.Deep.AppendSrc
namespace Go.Proofs.Ytdjepfpmoeecaaa
open Go Go.RowKit
set_option linter.unusedSimpArgs false
set_option linter.unusedVariables false

/-- A slice that is owned, of n elements (sz cells each) that hold xs, and the fragment that bears it. -/
inductive Own (e : TypeId) (sz : Nat) : Option Addr → Nat → Nat → List Value → Frag → Prop
  | nil : Own e sz none 0 0 [] []
  | row {g n cap : Nat} {cur xs : List Value} (hn : n ≤ cap) (hc : cap ≤ maxLen) (hl : cur.length = cap * sz) (ht : cur.take (n * sz) = xs) : Own e sz (some ⟨g, 0, none⟩) n cap xs [(g, .cells cur.toArray e (0, 0))]

section
variable {P : Program} {e : TypeId} {sz n cap : Nat} {a : Option Addr} {xs : List Value} {f : Frag} {w0 w : World} {M : List Nat} {Fs : List Frag}

theorem Own.len (h : Own e sz a n cap xs f) : xs.length = n * sz := by
  cases h with
  | nil => simp
  | @row g _ _ cur _ hn hc hl ht => rw [← ht, List.length_take, hl]; exact Nat.min_eq_left (Nat.mul_le_mul_right _ hn)
theorem Own.le (h : Own e sz a n cap xs f) : n ≤ cap := by
  cases h with
  | nil => exact Nat.le_refl _
  | row hn => exact hn
/-- Its rows are there. -/
theorem Own.sl {rows : List (List Value)} (h : Own e sz a n cap rows.flatten f) (hg : Goes w0 M (f :: Fs) w) (hr : ∀ r ∈ rows, r.length = sz) (hn : rows.length = n) (hl : n ≤ 140737488351232) : Sl w a cap sz rows := by
  refine ⟨by rw [hn]; exact h.le, by omega, fun ha => ?_, fun p hp hne => ?_⟩
  · subst ha
    have : n = 0 := by generalize rows.flatten = xs at h; cases h; rfl
    exact List.eq_nil_of_length_eq_zero (by omega)
  · subst hp
    generalize hxs : rows.flatten = xs at h
    cases h with
    | @row g _ _ cur _ hle hc hlen ht =>
      refine ⟨g, 0, rfl, fun i r hi => ⟨hr r (List.mem_of_getElem? hi), fun j v hj => ?_⟩⟩
      have h1 := rows_get sz rows hr i j r v hi hj
      rw [hxs, ← ht] at h1
      rw [add_lit]
      have hb := hg.own (g, .cells cur.toArray e (0, 0)) (by simp)
      simp only [World.cell?, hb, Option.isSome_none, Bool.false_eq_true, if_false, Nat.zero_add]
      rw [List.getElem?_take] at h1
      split at h1
      · simpa using h1
      · simp at h1

/-- The beginning of a slice. -/
theorem Sl.pre {rows : List (List Value)} (h : Sl w a cap sz rows) (m : Nat) : Sl w a cap sz (rows.take m) := by
  have hc := h.cap
  have hl := h.lim
  refine ⟨by simp; omega, by simp; omega, fun hn => by simp [h.nil hn], fun p hp hne => ?_⟩
  obtain ⟨b, k, e, hr⟩ := h.row p hp (by rintro rfl; simp at hne)
  refine ⟨b, k, e, fun i r hi => ?_⟩
  rw [List.getElem?_take] at hi
  split at hi
  · exact hr i r hi
  · simp at hi
/-- What is appended: out of a slice that is there. -/
theorem Sl.src {b : Option Addr} {c : Nat} {rows : List (List Value)} {tx e' : TypeId} (h : Sl w b c sz rows) (hk : P.underlying tx = some (.slice e')) (hr : ∀ r ∈ rows, r.length = sz) (ho : ∀ r ∈ rows, ∀ u ∈ r, u.oneCell' = true) :
    Src P sz tx (.slice b rows.length c) rows.length rows.flatten w := by
  cases b with
  | none =>
    obtain rfl := h.nil rfl
    exact Src.ofNil w hk c
  | some p =>
    have hfl : rows.flatten.length = rows.length * sz := by
      clear h ho
      induction rows with
      | nil => simp
      | cons r rs ih => rw [List.flatten_cons, List.length_append, ih (fun q hq => hr q (by simp [hq])), hr r (by simp), List.length_cons, Nat.add_mul]; omega
    refine Src.ofSlice w hk p _ _ _ hfl (fun j u hj => ?_) (fun u hu => ?_)
    · have hne : rows ≠ [] := by rintro rfl; simp at hj
      obtain ⟨bb, k, rfl, hrow⟩ := h.row p rfl hne
      have hjl := (List.getElem?_eq_some_iff.1 hj).1
      rw [hfl] at hjl
      have hsz : 0 < sz := by
        rcases Nat.eq_zero_or_pos sz with h0 | h0
        · subst h0; omega
        · exact h0
      have hi : j / sz < rows.length := Nat.div_lt_of_lt_mul (by rw [Nat.mul_comm]; exact hjl)
      have hm := Nat.mod_lt j hsz
      have h2 := hrow (j / sz) _ (List.getElem?_eq_getElem hi)
      have h3 : rows[j / sz][j % sz]? = some u := by
        have hlt : j % sz < rows[j / sz].length := by rw [h2.1]; exact hm
        have h4 := rows_get sz rows hr (j / sz) (j % sz) _ _ (List.getElem?_eq_getElem hi) (List.getElem?_eq_getElem hlt)
        rw [Nat.mul_comm, Nat.div_add_mod] at h4
        rw [List.getElem?_eq_getElem hlt, ← h4, hj]
      have h5 := h2.2 (j % sz) u h3
      rw [add_lit] at h5 ⊢
      rw [show k + j = k + j / sz * sz + j % sz from by rw [Nat.add_assoc, Nat.mul_comm, Nat.div_add_mod]]
      exact h5
    · obtain ⟨r, hr1, hr2⟩ := List.mem_flatten.1 hu
      exact ho r hr1 u hr2

theorem run_append_own_frag {t tx ty : TypeId} {x : Value} {m by' : Nat} {news zs : List Value} [H : Und P t (.slice e)] [S : Size P e sz] [B : Bytes P e by'] [Z : Zero P e zs]
    (hg : Goes w0 M (f :: Fs) w) (hO : Own e sz a n cap xs f) (hx : Src P sz tx x m news w) (hz : zs.length = sz) (h0 : 0 < sz) (h1 : 0 < by') (hb : (n + m) * by' ≤ 140737488355328) :
    ∃ a' cap' f' w', (Builtin.append_ #[t, tx] ty #[.slice a n cap, x]).run P w = .ok (.slice a' (n + m) cap') w' ∧ Own e sz a' (n + m) cap' (xs ++ news) f' ∧ Goes w0 M (f' :: Fs) w' := by
  have hSo := S.out
  have hBo := B.out
  have hZo := Z.out
  cases hi : P.info? e with
  | none => simp [hi] at hSo
  | some ie =>
    simp [hi] at hSo hBo hZo
    obtain ⟨z, hz1, hz2⟩ := hZo
    subst hSo
    have hml : n + m ≤ 140737488355328 := by
      have : (n + m) * 1 ≤ (n + m) * by' := Nat.mul_le_mul_left _ h1
      omega
    have hmax : n + m ≤ maxLen := by simp only [maxLen]; omega
    have hlen : (xs ++ news).length = (n + m) * ie.size := by rw [List.length_append, hO.len, hx.newsLen, Nat.add_mul]
    have hzc : z.cells.size = ie.size := by rw [← hz, ← hz2]; simp
    -- a new row
    have grow : ∀ (b0 : Option Addr) (c0 : Nat), c0 < n + m → (Builtin.firstCells ie.size n (.slice b0 n c0)).run P w.drew = .ok xs.toArray w.drew →
        ∃ a' cap' f' w', (Builtin.append_ #[t, tx] ty #[.slice b0 n c0, x]).run P w = .ok (.slice a' (n + m) cap') w' ∧ Own e ie.size a' (n + m) cap' (xs ++ news) f' ∧ Goes w0 M (f' :: Fs) w' := by
      intro b0 c0 hlt hold
      have hr := run_append_grow_src (P := P) w t tx ty e ie z H.out hi hz1 b0 n c0 xs hold x m news hx hlt (by omega) (by rw [hBo]; exact growslice_fits hlt hb)
      have hge := grownCap_ge w (n + m) c0 e
      have hcm : grownCap w (n + m) c0 e ≤ maxLen := grownCap_le_maxLen w (n + m) c0 e hmax
      have hobj : ((xs ++ news).toArray ++ Builtin.zeroCells z.cells (grownCap w (n + m) c0 e - (n + m))) = ((xs ++ news) ++ (Builtin.zeroCells z.cells (grownCap w (n + m) c0 e - (n + m))).toList).toArray := by
        apply Array.ext'; simp
      rw [hobj] at hr
      refine ⟨_, _, _, _, hr, ?_, ((hg.sub (Fs' := Fs) (by simp)).drew).alloc _⟩
      refine .row hge hcm ?_ ?_
      · rw [List.length_append, hlen, Array.length_toList, size_zeroCells, hzc, ← Nat.add_mul]
        congr 1
        omega
      · rw [← hlen]; exact List.take_left
    cases hO with
    | nil =>
      by_cases hm : m = 0
      · subst hm
        have hnw : news = [] := List.eq_nil_of_length_eq_zero (by simpa using hx.newsLen)
        subst hnw
        refine ⟨none, 0, [], w, ?_, .nil, hg⟩
        rcases hx.kind with ⟨e', hk⟩ | hk <;> simp [Builtin.append_, run_underlying H.out, run_underlying hk, sizeOf, typeInfo, hi, hx.len, hx.cells]
      · exact grow none 0 (by omega) (run_firstCells_none w.drew _ _ _ _)
    | @row g _ _ cur _ hle hc hl ht =>
      have hown := hg.own (g, .cells cur.toArray e (0, 0)) (by simp)
      by_cases hroom : n + m ≤ cap
      · have hfit : n * ie.size + news.length ≤ cur.length := by rw [hx.newsLen, hl, ← Nat.add_mul]; exact Nat.mul_le_mul_right _ hroom
        have hst := run_storeCells_at P g (n * ie.size) e news 0 cur.toArray w hown (by simpa using hfit) hx.one
        simp only [Nat.add_zero] at hst
        refine ⟨some ⟨g, 0, none⟩, cap, [(g, .cells (cur.take (n * ie.size) ++ news ++ cur.drop (n * ie.size + news.length)).toArray e (0, 0))], _, ?_, ?_, Turn.setRow .here hg⟩
        · rcases hx.kind with ⟨e', hk⟩ | hk <;> simp [Builtin.append_, run_underlying H.out, run_underlying hk, sizeOf, typeInfo, hi, hx.len, hroom, hx.cells, Addr.add_lit, hst]
        · refine .row hroom hc ?_ ?_
          · simp only [List.length_append, List.length_take, List.length_drop]; omega
          · rw [ht, ← hlen]; exact List.take_left
      · have hcells : ∀ j u, xs[j]? = some u → w.drew.cell? ((⟨g, 0, none⟩ : Addr).add j) = some u := by
          intro j u hj
          rw [add_lit]
          have : (w.drew).heap[g]? = some (.cells cur.toArray e (0, 0)) := hown
          simp only [World.cell?, this, Option.isSome_none, Bool.false_eq_true, if_false, Nat.zero_add]
          rw [← ht, List.getElem?_take] at hj
          split at hj
          · simpa using hj
          · simp at hj
        have hxl : xs.length = n * ie.size := by rw [← ht, List.length_take, hl]; exact Nat.min_eq_left (Nat.mul_le_mul_right _ hle)
        exact grow _ _ (by omega) (run_firstCells_some w.drew ie.size n ⟨g, 0, none⟩ n cap xs hxl hcells)

variable {r : Option Nat} {ops : Array Oper} {Q : Exit → Act → World → Prop} {os : List Oper} {l : List Value} {d : List Deferred} {dst : Option Tmp} {ty : TypeId} {pos : String} {af : Array Edge}
/-- append, onto a slice that is owned; w: a fragment in front. -/
theorem op_append {t tx : TypeId} {y z : Operand} {x : Value} {m by' : Nat} {news zs : List Value} [H : Und P t (.slice e)] [S : Size P e sz] [B : Bytes P e by'] [Z : Zero P e zs]
    (hg : Goes w0 M (f :: Fs) w) (hO : Own e sz a n cap xs f) (hx : Src P sz tx x m news w)
    (h : ∀ a' cap' f' w', Own e sz a' (n + m) cap' (xs ++ news) f' → Goes w0 M (f' :: Fs) w' → WO P r ops Q os (put l dst (.slice a' (n + m) cap')) d w')
    (hy : ev l y = .slice a n cap := by first | (simp only [ev, gt, put, List.set_cons_succ, List.set_cons_zero, Nat.zero_add, Nat.add_zero, Nat.mul_one, Nat.reduceAdd, Nat.reduceMul, Int.toNat_natCast, Int.reduceToNat, List.map_cons, List.map_nil, List.cons_append, List.nil_append]; exact rfl) | simp only [ev, gt, put, List.set_cons_succ, List.set_cons_zero, Nat.zero_add, Nat.add_zero, Nat.mul_one, Nat.reduceAdd, Nat.reduceMul, Int.toNat_natCast, Int.reduceToNat, List.map_cons, List.map_nil, List.cons_append, List.nil_append]) (hx' : ev l z = x := by first | (simp only [ev, gt, put, List.set_cons_succ, List.set_cons_zero, Nat.zero_add, Nat.add_zero, Nat.mul_one, Nat.reduceAdd, Nat.reduceMul, Int.toNat_natCast, Int.reduceToNat, List.map_cons, List.map_nil, List.cons_append, List.nil_append]; exact rfl) | simp only [ev, gt, put, List.set_cons_succ, List.set_cons_zero, Nat.zero_add, Nat.add_zero, Nat.mul_one, Nat.reduceAdd, Nat.reduceMul, Int.toNat_natCast, Int.reduceToNat, List.map_cons, List.map_nil, List.cons_append, List.nil_append]) (hb : (n + m) * by' ≤ 140737488355328 := by omega) (hz : zs.length = sz := by decide) (h0 : 0 < sz := by decide) (h1 : 0 < by' := by decide) :
    WO P r ops Q (⟨dst, .call { callee := .builtin .append, args := #[y, z], argTypes := #[t, tx] }, ty, pos, af, none⟩ :: os) l d w := by
  obtain ⟨a', cap', f', w', hrun, hO', hg'⟩ := run_append_own_frag (t := t) (tx := tx) (ty := ty) hg hO hx hz h0 h1 hb
  refine WO.val (by simp) ?_ rfl (h a' cap' f' w' hO' hg')
  simp [execOp, resolve, invoke, builtin, St_eval, hy, hx', hrun]
/-- An empty slice literal. -/
theorem op_buildNil {t : TypeId} [H : Und P t (.slice e)] [S : Size P e sz] (hg : Goes w0 M Fs w)
    (h : ∀ b w', Own e sz (some ⟨b, 0, none⟩) 0 0 [] [(b, .cells [].toArray e (0, 0))] → Goes w0 M ([(b, .cells [].toArray e (0, 0))] :: Fs) w' → WO P r ops Q os (put l dst (.slice (some ⟨b, 0, none⟩) 0 0)) d w') :
    WO P r ops Q (⟨dst, .buildSlice t 0 #[], ty, pos, af, none⟩ :: os) l d w := by
  have hSo := S.out
  cases hi : P.info? e with
  | none => simp [hi] at hSo
  | some ie =>
    refine WO.val (by simp) ?_ rfl (h w.heap.size _ (.row (Nat.le_refl _) (by decide) (by simp) (by simp)) (hg.alloc _))
    simp [execOp, Instr.buildSlice, run_underlying H.out, sizeOf, typeInfo, hi, Instr.fill, newRow, show Array.range 0 = #[] from Array.eq_empty_of_size_eq_zero (by simp)]
/-- A slice literal of one element, to be appended. -/
theorem Goes.src1 {b : Nat} {row : List Value} {tx e' : TypeId} {z : Nat × Nat} (hg : Goes w0 M ([(b, .cells [row].flatten.toArray e z)] :: Fs) w) (hk : P.underlying tx = some (.slice e')) (hr : row.length = sz) (ho : row.all (·.oneCell') = true) : Src P sz tx (.slice (some ⟨b, 0, none⟩) 1 1) 1 row w := by
  have h1 := Has.sl (rows := [row]) (s := sz) (cap := 1) .here hg (by simpa using hr) (by simp) (by simp)
  have := h1.src (P := P) (tx := tx) hk (by simpa using hr) (by simpa using ho)
  simpa using this

theorem flat_len (s : Nat) : ∀ (rows : List (List Value)), (∀ r ∈ rows, r.length = s) → rows.flatten.length = rows.length * s
  | [], _ => by simp
  | r :: rs, h => by rw [List.flatten_cons, List.length_append, flat_len s rs (fun q hq => h q (by simp [hq])), h r (by simp), List.length_cons, Nat.add_mul]; omega
/-- The cells around one row. -/
theorem rows_split {s i m : Nat} {rows : List (List Value)} {cur row : List Value} (ht : cur.take (m * s) = rows.flatten) (hm : rows.length = m) (hr : ∀ r ∈ rows, r.length = s) (hi : rows[i]? = some row) :
    ∃ A B, cur = A ++ (row ++ B) ∧ A.length = i * s ∧ ∀ row', row'.length = s → (A ++ (row' ++ B)).take (m * s) = (rows.set i row').flatten := by
  have hlt := (List.getElem?_eq_some_iff.1 hi).1
  have hrow : rows[i] = row := (List.getElem?_eq_some_iff.1 hi).2
  have e : rows = rows.take i ++ row :: rows.drop (i + 1) := by rw [← hrow]; simp
  have hA : (rows.take i).flatten.length = i * s := by rw [flat_len s _ (fun q hq => hr q (List.mem_of_mem_take hq)), List.length_take, Nat.min_eq_left (by omega)]
  have hC : (rows.drop (i + 1)).flatten.length = (m - (i + 1)) * s := by rw [flat_len s _ (fun q hq => hr q (List.mem_of_mem_drop hq)), List.length_drop, hm]
  refine ⟨(rows.take i).flatten, (rows.drop (i + 1)).flatten ++ cur.drop (m * s), ?_, hA, fun row' h' => ?_⟩
  · have h1 : cur = cur.take (m * s) ++ cur.drop (m * s) := by simp
    rw [ht] at h1
    have h2 : rows.flatten = (rows.take i).flatten ++ (row ++ (rows.drop (i + 1)).flatten) := by
      have := congrArg List.flatten e
      rw [List.flatten_append, List.flatten_cons] at this
      exact this
    rw [h2] at h1
    simp only [List.append_assoc] at h1
    exact h1
  · have hs : (rows.set i row').flatten = (rows.take i).flatten ++ (row' ++ (rows.drop (i + 1)).flatten) := by
      rw [List.set_eq_take_append_cons_drop, if_pos hlt, List.flatten_append, List.flatten_cons]
    have hl : ((rows.take i).flatten ++ (row' ++ (rows.drop (i + 1)).flatten)).length = m * s := by
      rw [List.length_append, List.length_append, hA, h', hC]
      have : m * s = i * s + (s + (m - (i + 1)) * s) := by
        have h3 : m = i + (1 + (m - (i + 1))) := by omega
        conv => lhs; rw [h3, Nat.add_mul, Nat.add_mul, Nat.one_mul]
      omega
    rw [hs, show (rows.take i).flatten ++ (row' ++ ((rows.drop (i + 1)).flatten ++ cur.drop (m * s))) = ((rows.take i).flatten ++ (row' ++ (rows.drop (i + 1)).flatten)) ++ cur.drop (m * s) from by simp only [List.append_assoc], ← hl]
    exact List.take_left
section
variable {α : Type} {A B row cs : List α} {k q : Nat} {v : α}
theorem mid_get (hA : A.length = q) (hk : row[k]? = some v) : (A ++ (row ++ B))[q + k]? = some v := by
  have := (List.getElem?_eq_some_iff.1 hk).1
  rw [List.getElem?_append_right (by omega), show q + k - A.length = k from by omega, List.getElem?_append_left this, hk]
theorem mid_get0 (hA : A.length = q) (hk : row[0]? = some v) : (A ++ (row ++ B))[q]? = some v := mid_get (k := 0) hA hk
theorem mid_set (hA : A.length = q) (hk : k < row.length) : (A ++ (row ++ B)).set (q + k) v = A ++ (row.set k v ++ B) := by
  rw [List.set_append_right _ _ (by omega), show q + k - A.length = k from by omega, List.set_append_left _ _ hk]
theorem mid_rows {n : Nat} (hA : A.length = q) (hn : row.length = n) : ((A ++ (row ++ B)).drop q).take n = row := by
  rw [← hA, List.drop_left, ← hn, List.take_left]
theorem mid_part {n : Nat} (hA : A.length = q) (hc : (row.drop k).take n = cs) (hl : k + n ≤ row.length) : ((A ++ (row ++ B)).drop (q + k)).take n = cs := by
  rw [← hc, ← List.drop_drop, ← hA, List.drop_left, List.drop_append_of_le_length (by omega), List.take_append_of_le_length (by simp; omega)]
end
theorem mid_over {A B row cs : List Value} {k q : Nat} (hA : A.length = q) (hl : k + cs.length ≤ row.length) : over (A ++ (row ++ B)) (q + k) cs = A ++ (over row k cs ++ B) := by
  unfold over
  rw [List.take_append, List.drop_append, ← hA, show A.length + k - A.length = k from by omega, List.take_of_length_le (l := A) (by omega), List.drop_eq_nil_of_le (as := A) (by omega), List.nil_append,
    show A.length + k + cs.length - A.length = k + cs.length from by omega, List.take_append_of_le_length (by omega), List.drop_append_of_le_length (by omega)]
  simp only [List.append_assoc]

theorem Own.inv (h : Own e sz a n cap xs f) (h0 : 0 < n) : ∃ g cur, a = some ⟨g, 0, none⟩ ∧ f = [(g, .cells (List.toArray cur) e (0, 0))] ∧ n ≤ cap ∧ cap ≤ maxLen ∧ cur.length = cap * sz ∧ cur.take (n * sz) = xs := by
  cases h with
  | nil => omega
  | row h1 h2 h3 h4 => exact ⟨_, _, rfl, rfl, h1, h2, h3, h4⟩
/-- One element of an owned slice, by itself. -/
theorem Own.split {X : Type} {enc : X → List Value} {xs : List X} {i : Nat} {x : X} (h : Own e sz a xs.length cap (xs.map enc).flatten f) (hl : ∀ x, (enc x).length = sz) (hi : xs[i]? = some x) :
    ∃ g A B, a = some ⟨g, 0, none⟩ ∧ f = [(g, .cells (List.toArray (A ++ (enc x ++ B))) e (0, 0))] ∧ A.length = i * sz ∧ ∀ x', Own e sz a xs.length cap ((xs.set i x').map enc).flatten [(g, .cells (List.toArray (A ++ (enc x' ++ B))) e (0, 0))] := by
  have hlt := (List.getElem?_eq_some_iff.1 hi).1
  obtain ⟨g, cur, rfl, rfl, h1, h2, h3, h4⟩ := h.inv (by omega)
  obtain ⟨A, B, rfl, hA, hr⟩ := rows_split (row := enc x) (i := i) h4 (by simp) (by simp [hl]) (by simp [hi])
  refine ⟨g, A, B, rfl, rfl, hA, fun x' => .row h1 h2 ?_ ?_⟩
  · simp only [List.length_append, hl] at h3 ⊢; exact h3
  · rw [hr (enc x') (hl x'), List.map_set]

/-- A slice literal of one element of one cell. -/
theorem op_build1 {t : TypeId} {x : Operand} {v z : Value} [H : Und P t (.slice e)] [Z : Zero P e [z]] [S : Size P e 1] (hg : Goes w0 M Fs w)
    (h : ∀ b w', Goes w0 M ([(b, .cells [[v]].flatten.toArray e (0, 0))] :: Fs) w' → WO P r ops Q os (put l dst (.slice (some ⟨b, 0, none⟩) 1 1)) d w') (hx : ev l x = v := by first | (simp only [ev, gt, put, List.set_cons_succ, List.set_cons_zero, Nat.zero_add, Nat.add_zero, Nat.mul_one, Nat.reduceAdd, Nat.reduceMul, Int.toNat_natCast, Int.reduceToNat, List.map_cons, List.map_nil, List.cons_append, List.nil_append]; exact rfl) | simp only [ev, gt, put, List.set_cons_succ, List.set_cons_zero, Nat.zero_add, Nat.add_zero, Nat.mul_one, Nat.reduceAdd, Nat.reduceMul, Int.toNat_natCast, Int.reduceToNat, List.map_cons, List.map_nil, List.cons_append, List.nil_append]) (hv : v.cells = #[v] := by first | rfl | assumption) :
    WO P r ops Q (⟨dst, .buildSlice t 1 #[(0, x)], ty, pos, af, none⟩ :: os) l d w := by
  have hzo := Z.out
  have hso := S.out
  cases hi : P.info? e with
  | none => simp [hi] at hzo
  | some ie =>
    simp [hi] at hzo hso
    obtain ⟨zz, hz, hzc⟩ := hzo
    have hcs : zz.cells = #[z] := by apply Array.ext'; rw [hzc]
    refine WO.val (by simp) ?_ rfl (h w.heap.size _ (hg.alloc _))
    have hr : Array.range 1 = #[0] := by apply Array.ext'; simp [List.range_succ]
    simp [execOp, Instr.buildSlice, run_underlying H.out, sizeOf, typeInfo, hi, hso, zeroValue, hz, hcs, St_eval, hx, Instr.fill, hv, newRow, hr]
end
end Go.Proofs.Ytdjepfpmoeecaaa
