/- The cache: Get, Put. The cache: Sweep. The cache's laws: the document's example. -/
import Derived.Test.YtkdidefghbeabaaGreatM10
namespace Go.Proofs.YtkdidefghbeabaaGreat
open Go Go.RowKit
set_option maxRecDepth 10000
set_option linter.unusedSimpArgs false
set_option linter.unusedVariables false

theorem look_none {es : Array MapEntry} {clock bm : Nat} {m : List (Int × Ent)} {a : Int} {w : World} {l : List Value} {ty : TypeId} {x y : Operand} (hb : w.heap[bm]? = some (.map es clock)) (hm : MapIs Ent.val es clock m) (hmg : mget m a = none) (hx : ev l x = .map (some bm)) (hy : ev l y = .int .i64 a) :
    Runs Tryz.prog l (.lookup 140 x y true) ty w (.tuple (List.toArray [.agg [.int .i64 0, .int .i64 0, .int .i64 0, .int .i64 0, .int .i64 0, .int .i64 0, .int .i64 0].toArray, .bool false])) := by
  have := x_lookupOk (P := Tryz.prog) (t := 140) (zv := Ent.zero.val) (ty := ty) hb hm hx hy (hz := by kernel_rfl)
  rw [hmg] at this
  exact this
theorem look_some {es : Array MapEntry} {clock bm : Nat} {m : List (Int × Ent)} {a : Int} {e : Ent} {w : World} {l : List Value} {ty : TypeId} {x y : Operand} (hb : w.heap[bm]? = some (.map es clock)) (hm : MapIs Ent.val es clock m) (hmg : mget m a = some e) (hx : ev l x = .map (some bm)) (hy : ev l y = .int .i64 a) :
    Runs Tryz.prog l (.lookup 140 x y true) ty w (.tuple (List.toArray [.agg [.int .i64 e.mode, .int .i64 e.tok.kind, .int .i64 e.tok.rule, .int .i64 e.tok.fr, .int .i64 e.tok.at', .int .i64 e.tok.to, .int .i64 e.tok.mode].toArray, .bool true])) := by
  have := x_lookupOk (P := Tryz.prog) (t := 140) (zv := Ent.zero.val) (ty := ty) hb hm hx hy (hz := by kernel_rfl)
  rw [hmg] at this
  exact this

set_option maxHeartbeats 2000000 in
theorem CGet_spec {pc : Nat} {room : Int} {m : List (Int × Ent)} {h : List Int} {f : Frag} {w0 : World} (a md : Int) (hO : Owns w0 f) (hF : CacheF pc room m h f) :
    Calls Tryz.prog 94 #[.pointer (some ⟨pc, 0, none⟩), .agg [.int .i64 a, .int .i64 md].toArray] w0 fun e w' => e = .returned (match (mget m a).bind fun e => if e.mode = md then some e else none with
      | some e => .tuple #[.agg e.tok.enc.toArray, .bool true]
      | none => .tuple #[.agg Tok.none.enc.toArray, .bool false]) ∧ Goes w0 (keys f) [f] w' := by
  obtain ⟨ph, bm, clock, es, fh, rfl, hH, hm⟩ := hF
  have hg := hO.goes.three
  have hK : CacheF pc room m h ([(pc, .cells [.int .i64 room, .map (some bm), .pointer (some ⟨ph, 0, none⟩)].toArray 144 (0, 0))] ++ (fh ++ [(bm, .map es clock)])) := ⟨ph, bm, clock, es, fh, rfl, hH, hm⟩
  have p1 : ∀ {w x y}, Goes w0 (keys ([(pc, .cells [.int .i64 room, .map (some bm), .pointer (some ⟨ph, 0, none⟩)].toArray 144 (0, 0))] ++ (fh ++ [(bm, .map es clock)]))) [x, y, [(pc, .cells [.int .i64 room, .map (some bm), .pointer (some ⟨ph, 0, none⟩)].toArray 144 (0, 0))], fh, [(bm, .map es clock)]] w → Calls Tryz.prog 125 #[.pointer (some ⟨pc, 0, none⟩)] w _ := fun g => cmade_spec (heap_cell (g.own (pc, .cells [.int .i64 room, .map (some bm), .pointer (some ⟨ph, 0, none⟩)].toArray 144 (0, 0)) (by simp)) rfl)
  refine enter Tryz.func94 rfl (by simp only [Tryz.ntmps94, List.length_cons, List.length_nil, Nat.reduceAdd, Nat.reduceSub, List.replicate_succ, List.replicate_zero, List.cons_append, List.nil_append]; exact rfl) ?_
  repeat' (first | refine zN ?_ | (refine WC.quietG hg ?_; clear hg) | ((with_reducible refine WQ.nilG ?_); intro w hg) | (refine zB ?_; clear hg; intro b w hg; refine WO.fr ?_) | (refine zW ?_; clear hg; intro w hg; refine WO.fr ?_) | (refine op_pureB hg ?_; clear hg; intro w hg c hc; cases c <;> refine WO.fr ?_))
  rename_i bs _ _
  have s1 : ∀ {w : World}, (w.heap[pc]? = some (.cells [.int .i64 room, .map (some bm), .pointer (some ⟨ph, 0, none⟩)].toArray 144 (0, 0)) ∧ w.heap[bm]? = some (.map es clock) ∧ w.heap[bs]? = some (.cells [.int .i64 a, .int .i64 md].toArray 69 (0, 0))) → w.cell? ⟨pc, 1, none⟩ = some (.map (some bm)) := fun h => heap_cell h.1 rfl
  have s2 : ∀ {w : World}, (w.heap[pc]? = some (.cells [.int .i64 room, .map (some bm), .pointer (some ⟨ph, 0, none⟩)].toArray 144 (0, 0)) ∧ w.heap[bm]? = some (.map es clock) ∧ w.heap[bs]? = some (.cells [.int .i64 a, .int .i64 md].toArray 69 (0, 0))) → w.cell? ⟨bs, 0, none⟩ = some (.int .i64 a) := fun h => heap_cell h.2.2 rfl
  cases hmg : mget m a with
  | none =>
    have k1 : ∀ {w : World} {l : List Value} {ty : TypeId} {x y : Operand}, (w.heap[pc]? = some (.cells [.int .i64 room, .map (some bm), .pointer (some ⟨ph, 0, none⟩)].toArray 144 (0, 0)) ∧ w.heap[bm]? = some (.map es clock) ∧ w.heap[bs]? = some (.cells [.int .i64 a, .int .i64 md].toArray 69 (0, 0))) → ev l x = .map (some bm) → ev l y = .int .i64 a → Runs Tryz.prog l (.lookup 140 x y true) ty w _ := fun h hx hy => look_none h.2.1 hm hmg hx hy
    refine WC.drawn (fun w => w.heap[pc]? = some (.cells [.int .i64 room, .map (some bm), .pointer (some ⟨ph, 0, none⟩)].toArray 144 (0, 0)) ∧ w.heap[bm]? = some (.map es clock) ∧ w.heap[bs]? = some (.cells [.int .i64 a, .int .i64 md].toArray 69 (0, 0))) [8, 9, 11, 12] hg ?_
    clear hg
    intro w hg
    have hS : (fun w => w.heap[pc]? = some (.cells [.int .i64 room, .map (some bm), .pointer (some ⟨ph, 0, none⟩)].toArray 144 (0, 0)) ∧ w.heap[bm]? = some (.map es clock) ∧ w.heap[bs]? = some (.cells [.int .i64 a, .int .i64 md].toArray 69 (0, 0))) w := ⟨hg.own (pc, .cells [.int .i64 room, .map (some bm), .pointer (some ⟨ph, 0, none⟩)].toArray 144 (0, 0)) (by simp), hg.own (bm, .map es clock) (by simp), hg.own (bs, .cells [.int .i64 a, .int .i64 md].toArray 69 (0, 0)) (by simp)⟩
    refine WA.passM 0 hS ?_
    refine WA.passM 1 hS ?_
    refine WA.passM 2 hS ?_
    refine WA.passM 4 hS ?_
    refine WA.passM 3 hS ?_
    refine WA.passM 5 hS ?_
    refine WA.passM 6 hS ?_
    refine WA.passM 7 hS ?_
    refine WA.passL 8 ?_
    refine WA.passL 9 ?_
    refine WA.only 10 ?_
    refine op_alloc hg ?_
    clear hg hS
    intro be w hg
    refine WO.fr ?_
    have hS : (fun w => w.heap[pc]? = some (.cells [.int .i64 room, .map (some bm), .pointer (some ⟨ph, 0, none⟩)].toArray 144 (0, 0)) ∧ w.heap[bm]? = some (.map es clock) ∧ w.heap[bs]? = some (.cells [.int .i64 a, .int .i64 md].toArray 69 (0, 0))) w := ⟨hg.own (pc, .cells [.int .i64 room, .map (some bm), .pointer (some ⟨ph, 0, none⟩)].toArray 144 (0, 0)) (by simp), hg.own (bm, .map es clock) (by simp), hg.own (bs, .cells [.int .i64 a, .int .i64 md].toArray 69 (0, 0)) (by simp)⟩
    refine WO.nilA hS ?_
    refine WA.only 11 ?_
    refine op_storeA hg ?_
    clear hg hS
    intro w hg
    simp only [over, List.take_zero, List.take_succ_cons, List.drop_zero, List.drop_succ_cons, List.nil_append, List.cons_append, List.append_nil, List.length_cons, List.length_nil, Nat.zero_add, Nat.reduceAdd] at hg
    refine WO.fr ?_
    refine WO.nilL ?_
    refine WA.passL 12 ?_
    refine WA.nil ?_
    clear s1 s2 k1
    repeat' (first | refine zN ?_ | (refine WC.quietG hg ?_; clear hg) | ((with_reducible refine WQ.nilG ?_); intro w hg) | (refine zB ?_; clear hg; intro b w hg; refine WO.fr ?_) | (refine zW ?_; clear hg; intro w hg; refine WO.fr ?_) | (refine op_pureB hg ?_; clear hg; intro w hg c hc; cases c <;> refine WO.fr ?_))
    exact ret (.cells rfl (by first | with_reducible assumption | ((with_reducible apply Cells.ldn); (first | with_reducible assumption | ((with_reducible apply hg.cells0); with_reducible assumption) | with_reducible exact r1 hg | with_reducible exact r2 hg | with_reducible exact r3 hg | with_reducible exact r4 hg | with_reducible exact r5 hg | with_reducible exact t1 hs | with_reducible exact t2 hs | with_reducible exact t3 hs | with_reducible exact t4 hs); exact rfl) | ((with_reducible apply CellsAt.ldn (hg := hg)); (repeat (first | ((with_reducible apply CellsAt.whole); exact rfl) | ((with_reducible apply CellsAt.here) <;> first | with_reducible assumption | (simp only [List.drop_zero, List.drop_succ_cons, List.take_succ_cons, List.take_zero]; exact rfl) | exact rfl) | with_reducible apply CellsAt.more | with_reducible apply CellsAt.next)); done)) (.tmp rfl .nil)) ⟨rfl, ((((((hg.front 2).front 2).front 2).front 5).front 5).front 5).unthree.sub (by simp)⟩
  | some e =>
    have k1 : ∀ {w : World} {l : List Value} {ty : TypeId} {x y : Operand}, (w.heap[pc]? = some (.cells [.int .i64 room, .map (some bm), .pointer (some ⟨ph, 0, none⟩)].toArray 144 (0, 0)) ∧ w.heap[bm]? = some (.map es clock) ∧ w.heap[bs]? = some (.cells [.int .i64 a, .int .i64 md].toArray 69 (0, 0))) → ev l x = .map (some bm) → ev l y = .int .i64 a → Runs Tryz.prog l (.lookup 140 x y true) ty w _ := fun h hx hy => look_some h.2.1 hm hmg hx hy
    refine WC.drawn (fun w => w.heap[pc]? = some (.cells [.int .i64 room, .map (some bm), .pointer (some ⟨ph, 0, none⟩)].toArray 144 (0, 0)) ∧ w.heap[bm]? = some (.map es clock) ∧ w.heap[bs]? = some (.cells [.int .i64 a, .int .i64 md].toArray 69 (0, 0))) [8, 9, 11, 12] hg ?_
    clear hg
    intro w hg
    have hS : (fun w => w.heap[pc]? = some (.cells [.int .i64 room, .map (some bm), .pointer (some ⟨ph, 0, none⟩)].toArray 144 (0, 0)) ∧ w.heap[bm]? = some (.map es clock) ∧ w.heap[bs]? = some (.cells [.int .i64 a, .int .i64 md].toArray 69 (0, 0))) w := ⟨hg.own (pc, .cells [.int .i64 room, .map (some bm), .pointer (some ⟨ph, 0, none⟩)].toArray 144 (0, 0)) (by simp), hg.own (bm, .map es clock) (by simp), hg.own (bs, .cells [.int .i64 a, .int .i64 md].toArray 69 (0, 0)) (by simp)⟩
    refine WA.passM 0 hS ?_
    refine WA.passM 1 hS ?_
    refine WA.passM 2 hS ?_
    refine WA.passM 4 hS ?_
    refine WA.passM 3 hS ?_
    refine WA.passM 5 hS ?_
    refine WA.passM 6 hS ?_
    refine WA.passM 7 hS ?_
    refine WA.passL 8 ?_
    refine WA.passL 9 ?_
    refine WA.only 10 ?_
    refine op_alloc hg ?_
    clear hg hS
    intro be w hg
    refine WO.fr ?_
    have hS : (fun w => w.heap[pc]? = some (.cells [.int .i64 room, .map (some bm), .pointer (some ⟨ph, 0, none⟩)].toArray 144 (0, 0)) ∧ w.heap[bm]? = some (.map es clock) ∧ w.heap[bs]? = some (.cells [.int .i64 a, .int .i64 md].toArray 69 (0, 0))) w := ⟨hg.own (pc, .cells [.int .i64 room, .map (some bm), .pointer (some ⟨ph, 0, none⟩)].toArray 144 (0, 0)) (by simp), hg.own (bm, .map es clock) (by simp), hg.own (bs, .cells [.int .i64 a, .int .i64 md].toArray 69 (0, 0)) (by simp)⟩
    refine WO.nilA hS ?_
    refine WA.only 11 ?_
    refine op_storeA hg ?_
    clear hg hS
    intro w hg
    simp only [over, List.take_zero, List.take_succ_cons, List.drop_zero, List.drop_succ_cons, List.nil_append, List.cons_append, List.append_nil, List.length_cons, List.length_nil, Nat.zero_add, Nat.reduceAdd] at hg
    refine WO.fr ?_
    refine WO.nilL ?_
    refine WA.passL 12 ?_
    refine WA.nil ?_
    clear s1 s2 k1
    by_cases hmd : e.mode = md
    · repeat' (first | refine zN ?_ | (refine WC.quietG hg ?_; clear hg) | ((with_reducible refine WQ.nilG ?_); intro w hg) | (refine zB ?_; clear hg; intro b w hg; refine WO.fr ?_) | (refine zW ?_; clear hg; intro w hg; refine WO.fr ?_) | (refine op_pureB hg ?_; clear hg; intro w hg c hc; cases c <;> refine WO.fr ?_))
      exact ret (.cells rfl (by first | with_reducible assumption | ((with_reducible apply Cells.ldn); (first | with_reducible assumption | ((with_reducible apply hg.cells0); with_reducible assumption) | with_reducible exact r1 hg | with_reducible exact r2 hg | with_reducible exact r3 hg | with_reducible exact r4 hg | with_reducible exact r5 hg | with_reducible exact t1 hs | with_reducible exact t2 hs | with_reducible exact t3 hs | with_reducible exact t4 hs); exact rfl) | ((with_reducible apply CellsAt.ldn (hg := hg)); (repeat (first | ((with_reducible apply CellsAt.whole); exact rfl) | ((with_reducible apply CellsAt.here) <;> first | with_reducible assumption | (simp only [List.drop_zero, List.drop_succ_cons, List.take_succ_cons, List.take_zero]; exact rfl) | exact rfl) | with_reducible apply CellsAt.more | with_reducible apply CellsAt.next)); done)) (.tmp rfl .nil)) ⟨by rw [show (some e).bind (fun e => if e.mode = md then some e else none) = some e from by simp [hmd]]; rfl, ((((((hg.front 2).front 2).front 2).front 5).front 5).front 5).unthree.sub (by simp)⟩
    · repeat' (first | refine zN ?_ | (refine WC.quietG hg ?_; clear hg) | ((with_reducible refine WQ.nilG ?_); intro w hg) | (refine zB ?_; clear hg; intro b w hg; refine WO.fr ?_) | (refine zW ?_; clear hg; intro w hg; refine WO.fr ?_) | (refine op_pureB hg ?_; clear hg; intro w hg c hc; cases c <;> refine WO.fr ?_))
      exact ret (.cells rfl (by first | with_reducible assumption | ((with_reducible apply Cells.ldn); (first | with_reducible assumption | ((with_reducible apply hg.cells0); with_reducible assumption) | with_reducible exact r1 hg | with_reducible exact r2 hg | with_reducible exact r3 hg | with_reducible exact r4 hg | with_reducible exact r5 hg | with_reducible exact t1 hs | with_reducible exact t2 hs | with_reducible exact t3 hs | with_reducible exact t4 hs); exact rfl) | ((with_reducible apply CellsAt.ldn (hg := hg)); (repeat (first | ((with_reducible apply CellsAt.whole); exact rfl) | ((with_reducible apply CellsAt.here) <;> first | with_reducible assumption | (simp only [List.drop_zero, List.drop_succ_cons, List.take_succ_cons, List.take_zero]; exact rfl) | exact rfl) | with_reducible apply CellsAt.more | with_reducible apply CellsAt.next)); done)) (.tmp rfl .nil)) ⟨by rw [show (some e).bind (fun e => if e.mode = md then some e else none) = none from by simp [hmd]]; rfl, ((((((hg.front 2).front 2).front 2).front 5).front 5).front 5).unthree.sub (by simp)⟩

set_option maxHeartbeats 4000000 in
theorem CPut_spec {pc : Nat} {room : Int} {m : List (Int × Ent)} {h : List Int} {f : Frag} {w0 : World} {ws : List CE} (a md : Int) (t : Tok) (hO : Owns w0 f) (hF : CacheF pc room m h f) (hR : CRel ws (mget m) h) (hn : ws.length ≤ 800000) :
    Calls Tryz.prog 101 #[.pointer (some ⟨pc, 0, none⟩), .agg [.int .i64 a, .int .i64 md].toArray, .agg t.enc.toArray] w0 fun e w' => ∃ m' h' f', e = .returned (.bool (rput ws ⟨a, md, t⟩ room).2) ∧ CacheF pc room m' h' f' ∧ CRel (rput ws ⟨a, md, t⟩ room).1 (mget m') h' ∧ Goes w0 (keys f) [f'] w' := by
  obtain ⟨ph, bm, clock, es, fh, rfl, hH, hm⟩ := hF
  have hml := hR.mlen hm.nodup
  have hhl := hR.len
  have hg := hO.goes.three
  have hK : CacheF pc room m h ([(pc, .cells [.int .i64 room, .map (some bm), .pointer (some ⟨ph, 0, none⟩)].toArray 144 (0, 0))] ++ (fh ++ [(bm, .map es clock)])) := ⟨ph, bm, clock, es, fh, rfl, hH, hm⟩
  have p1 : ∀ {w x y}, Goes w0 (keys ([(pc, .cells [.int .i64 room, .map (some bm), .pointer (some ⟨ph, 0, none⟩)].toArray 144 (0, 0))] ++ (fh ++ [(bm, .map es clock)]))) [x, y, [(pc, .cells [.int .i64 room, .map (some bm), .pointer (some ⟨ph, 0, none⟩)].toArray 144 (0, 0))], fh, [(bm, .map es clock)]] w → Calls Tryz.prog 125 #[.pointer (some ⟨pc, 0, none⟩)] w _ := fun g => cmade_spec (heap_cell (g.own (pc, .cells [.int .i64 room, .map (some bm), .pointer (some ⟨ph, 0, none⟩)].toArray 144 (0, 0)) (by simp)) rfl)
  simp only [Tok.enc]
  refine enter Tryz.func101 rfl (by simp only [Tryz.ntmps101, List.length_cons, List.length_nil, Nat.reduceAdd, Nat.reduceSub, List.replicate_succ, List.replicate_zero, List.cons_append, List.nil_append]; exact rfl) ?_
  repeat' (first | refine zN ?_ | (refine WC.quietG hg ?_; clear hg) | ((with_reducible refine WQ.nilG ?_); intro w hg) | (refine zB ?_; clear hg; intro b w hg; refine WO.fr ?_) | (refine zW ?_; clear hg; intro w hg; refine WO.fr ?_) | (refine op_pureB hg ?_; clear hg; intro w hg c hc; cases c <;> refine WO.fr ?_))
  rename_i bs _ _
  have s1 : ∀ {w : World}, (w.heap[pc]? = some (.cells [.int .i64 room, .map (some bm), .pointer (some ⟨ph, 0, none⟩)].toArray 144 (0, 0)) ∧ w.heap[bm]? = some (.map es clock) ∧ w.heap[bs]? = some (.cells [.int .i64 a, .int .i64 md].toArray 69 (0, 0))) → w.cell? ⟨pc, 1, none⟩ = some (.map (some bm)) := fun h => heap_cell h.1 rfl
  have s2 : ∀ {w : World}, (w.heap[pc]? = some (.cells [.int .i64 room, .map (some bm), .pointer (some ⟨ph, 0, none⟩)].toArray 144 (0, 0)) ∧ w.heap[bm]? = some (.map es clock) ∧ w.heap[bs]? = some (.cells [.int .i64 a, .int .i64 md].toArray 69 (0, 0))) → w.cell? ⟨bs, 0, none⟩ = some (.int .i64 a) := fun h => heap_cell h.2.2 rfl
  cases hmg : mget m a with
  | some e =>
    have k1 : ∀ {w : World} {l : List Value} {ty : TypeId} {x y : Operand}, (w.heap[pc]? = some (.cells [.int .i64 room, .map (some bm), .pointer (some ⟨ph, 0, none⟩)].toArray 144 (0, 0)) ∧ w.heap[bm]? = some (.map es clock) ∧ w.heap[bs]? = some (.cells [.int .i64 a, .int .i64 md].toArray 69 (0, 0))) → ev l x = .map (some bm) → ev l y = .int .i64 a → Runs Tryz.prog l (.lookup 140 x y true) ty w _ := fun h hx hy => look_some h.2.1 hm hmg hx hy
    refine WC.drawn (fun w => w.heap[pc]? = some (.cells [.int .i64 room, .map (some bm), .pointer (some ⟨ph, 0, none⟩)].toArray 144 (0, 0)) ∧ w.heap[bm]? = some (.map es clock) ∧ w.heap[bs]? = some (.cells [.int .i64 a, .int .i64 md].toArray 69 (0, 0))) [8, 9, 11, 12] hg ?_
    clear hg
    intro w hg
    have hS : (fun w => w.heap[pc]? = some (.cells [.int .i64 room, .map (some bm), .pointer (some ⟨ph, 0, none⟩)].toArray 144 (0, 0)) ∧ w.heap[bm]? = some (.map es clock) ∧ w.heap[bs]? = some (.cells [.int .i64 a, .int .i64 md].toArray 69 (0, 0))) w := ⟨hg.own (pc, .cells [.int .i64 room, .map (some bm), .pointer (some ⟨ph, 0, none⟩)].toArray 144 (0, 0)) (by simp), hg.own (bm, .map es clock) (by simp), hg.own (bs, .cells [.int .i64 a, .int .i64 md].toArray 69 (0, 0)) (by simp)⟩
    refine WA.passM 0 hS ?_
    refine WA.passM 1 hS ?_
    refine WA.passM 2 hS ?_
    refine WA.passM 4 hS ?_
    refine WA.passM 3 hS ?_
    refine WA.passM 5 hS ?_
    refine WA.passM 6 hS ?_
    refine WA.passM 7 hS ?_
    refine WA.passL 8 ?_
    refine WA.passL 9 ?_
    refine WA.only 10 ?_
    refine op_alloc hg ?_
    clear hg hS
    intro be w hg
    refine WO.fr ?_
    have hS : (fun w => w.heap[pc]? = some (.cells [.int .i64 room, .map (some bm), .pointer (some ⟨ph, 0, none⟩)].toArray 144 (0, 0)) ∧ w.heap[bm]? = some (.map es clock) ∧ w.heap[bs]? = some (.cells [.int .i64 a, .int .i64 md].toArray 69 (0, 0))) w := ⟨hg.own (pc, .cells [.int .i64 room, .map (some bm), .pointer (some ⟨ph, 0, none⟩)].toArray 144 (0, 0)) (by simp), hg.own (bm, .map es clock) (by simp), hg.own (bs, .cells [.int .i64 a, .int .i64 md].toArray 69 (0, 0)) (by simp)⟩
    refine WO.nilA hS ?_
    refine WA.only 11 ?_
    refine op_storeA hg ?_
    clear hg hS
    intro w hg
    simp only [over, List.take_zero, List.take_succ_cons, List.drop_zero, List.drop_succ_cons, List.nil_append, List.cons_append, List.append_nil, List.length_cons, List.length_nil, Nat.zero_add, Nat.reduceAdd] at hg
    refine WO.fr ?_
    refine WO.nilL ?_
    refine WA.passL 12 ?_
    refine WA.nil ?_
    clear s1 s2 k1
    repeat' (first | refine zN ?_ | ((with_reducible refine WQ.nilG ?_); intro w hg) | (refine zB ?_; clear hg; intro b w hg; refine WO.fr ?_) | (refine zW ?_; clear hg; intro w hg; refine WO.fr ?_) | (refine op_pureB hg ?_; clear hg; intro w hg c hc; cases c <;> refine WO.fr ?_))
    have s3 : ∀ {w : World}, (w.heap[pc]? = some (.cells [.int .i64 room, .map (some bm), .pointer (some ⟨ph, 0, none⟩)].toArray 144 (0, 0)) ∧ w.heap[bs]? = some (.cells [.int .i64 a, .int .i64 md].toArray 69 (0, 0)) ∧ w.heap[b]? = some (.cells [.int .i64 t.kind, .int .i64 t.rule, .int .i64 t.fr, .int .i64 t.at', .int .i64 t.to, .int .i64 t.mode].toArray 48 (0, 0))) → w.cell? ⟨pc, 1, none⟩ = some (.map (some bm)) := fun h => heap_cell h.1 rfl
    have s4 : ∀ {w : World}, (w.heap[pc]? = some (.cells [.int .i64 room, .map (some bm), .pointer (some ⟨ph, 0, none⟩)].toArray 144 (0, 0)) ∧ w.heap[bs]? = some (.cells [.int .i64 a, .int .i64 md].toArray 69 (0, 0)) ∧ w.heap[b]? = some (.cells [.int .i64 t.kind, .int .i64 t.rule, .int .i64 t.fr, .int .i64 t.at', .int .i64 t.to, .int .i64 t.mode].toArray 48 (0, 0))) → w.cell? ⟨bs, 0, none⟩ = some (.int .i64 a) := fun h => heap_cell h.2.1 rfl
    have s5 : ∀ {w : World}, (w.heap[pc]? = some (.cells [.int .i64 room, .map (some bm), .pointer (some ⟨ph, 0, none⟩)].toArray 144 (0, 0)) ∧ w.heap[bs]? = some (.cells [.int .i64 a, .int .i64 md].toArray 69 (0, 0)) ∧ w.heap[b]? = some (.cells [.int .i64 t.kind, .int .i64 t.rule, .int .i64 t.fr, .int .i64 t.at', .int .i64 t.to, .int .i64 t.mode].toArray 48 (0, 0))) → w.cell? ⟨bs, 1, none⟩ = some (.int .i64 md) := fun h => heap_cell h.2.1 rfl
    have t1 : ∀ {w : World}, (w.heap[pc]? = some (.cells [.int .i64 room, .map (some bm), .pointer (some ⟨ph, 0, none⟩)].toArray 144 (0, 0)) ∧ w.heap[bs]? = some (.cells [.int .i64 a, .int .i64 md].toArray 69 (0, 0)) ∧ w.heap[b]? = some (.cells [.int .i64 t.kind, .int .i64 t.rule, .int .i64 t.fr, .int .i64 t.at', .int .i64 t.to, .int .i64 t.mode].toArray 48 (0, 0))) → Cells w ⟨b, 0, none⟩ [.int .i64 t.kind, .int .i64 t.rule, .int .i64 t.fr, .int .i64 t.at', .int .i64 t.to, .int .i64 t.mode] := fun h => heap_cells h.2.2 rfl
    refine WC.drawn (fun w => w.heap[pc]? = some (.cells [.int .i64 room, .map (some bm), .pointer (some ⟨ph, 0, none⟩)].toArray 144 (0, 0)) ∧ w.heap[bs]? = some (.cells [.int .i64 a, .int .i64 md].toArray 69 (0, 0)) ∧ w.heap[b]? = some (.cells [.int .i64 t.kind, .int .i64 t.rule, .int .i64 t.fr, .int .i64 t.at', .int .i64 t.to, .int .i64 t.mode].toArray 48 (0, 0))) [10] hg ?_
    clear hg
    intro w hg
    have hS : (fun w => w.heap[pc]? = some (.cells [.int .i64 room, .map (some bm), .pointer (some ⟨ph, 0, none⟩)].toArray 144 (0, 0)) ∧ w.heap[bs]? = some (.cells [.int .i64 a, .int .i64 md].toArray 69 (0, 0)) ∧ w.heap[b]? = some (.cells [.int .i64 t.kind, .int .i64 t.rule, .int .i64 t.fr, .int .i64 t.at', .int .i64 t.to, .int .i64 t.mode].toArray 48 (0, 0))) w := ⟨hg.own (pc, .cells [.int .i64 room, .map (some bm), .pointer (some ⟨ph, 0, none⟩)].toArray 144 (0, 0)) (by simp), hg.own (bs, .cells [.int .i64 a, .int .i64 md].toArray 69 (0, 0)) (by simp), hg.own (b, .cells [.int .i64 t.kind, .int .i64 t.rule, .int .i64 t.fr, .int .i64 t.at', .int .i64 t.to, .int .i64 t.mode].toArray 48 (0, 0)) (by simp)⟩
    refine WA.passM 0 hS ?_
    refine WA.passM 1 hS ?_
    refine WA.passM 2 hS ?_
    refine WA.passM 4 hS ?_
    refine WA.passM 6 hS ?_
    refine WA.passM 3 hS ?_
    refine WA.passM 5 hS ?_
    refine WA.passM 7 hS ?_
    refine WA.passM 8 hS ?_
    refine WA.passM 9 hS ?_
    refine WA.only 10 ?_
    refine op_mapUpdate (u := (⟨md, t⟩ : Ent)) (hg.front 5) hm ?_
    clear hg hS
    intro es' clock' w hm' hg
    refine WO.fr ?_
    refine WO.nilL ?_
    refine WA.nil ?_
    clear s3 s4 s5 t1
    repeat' (first | refine zN ?_ | ((with_reducible refine WQ.nilG ?_); intro w hg) | (refine zB ?_; clear hg; intro b w hg; refine WO.fr ?_) | (refine zW ?_; clear hg; intro w hg; refine WO.fr ?_) | (refine op_pureB hg ?_; clear hg; intro w hg c hc; cases c <;> refine WO.fr ?_))
    have hin : a ∈ plc ws := (hR.has a).1 (by rw [hmg]; rfl)
    have hah := (at_ahead (a := a) hR.sorted).2 hin
    have hrp : rput ws ⟨a, md, t⟩ room = (ws.take (ahead ws a) ++ ⟨a, md, t⟩ :: ws.drop (ahead ws a + 1), true) := by
      unfold rput
      simp only [hah, if_true]
    rw [hrp]
    refine ret1 rfl ⟨mset m a ⟨md, t⟩, h, _, rfl, ⟨ph, bm, clock', es', fh, rfl, hH, hm'⟩, ?_, ((((((hg.front 3).front 3).front 3).front 3).front 5).front 5).unthree.sub (by simp)⟩
    have := hR.replace ⟨a, md, t⟩ hah
    have e2 : (fun p => if a = p then some (⟨md, t⟩ : Ent) else mget m p) = mget (mset m a ⟨md, t⟩) := funext fun p => (mget_mset m a ⟨md, t⟩ p).symm
    rw [← e2]
    exact this
  | none =>
    have k1 : ∀ {w : World} {l : List Value} {ty : TypeId} {x y : Operand}, (w.heap[pc]? = some (.cells [.int .i64 room, .map (some bm), .pointer (some ⟨ph, 0, none⟩)].toArray 144 (0, 0)) ∧ w.heap[bm]? = some (.map es clock) ∧ w.heap[bs]? = some (.cells [.int .i64 a, .int .i64 md].toArray 69 (0, 0))) → ev l x = .map (some bm) → ev l y = .int .i64 a → Runs Tryz.prog l (.lookup 140 x y true) ty w _ := fun h hx hy => look_none h.2.1 hm hmg hx hy
    refine WC.drawn (fun w => w.heap[pc]? = some (.cells [.int .i64 room, .map (some bm), .pointer (some ⟨ph, 0, none⟩)].toArray 144 (0, 0)) ∧ w.heap[bm]? = some (.map es clock) ∧ w.heap[bs]? = some (.cells [.int .i64 a, .int .i64 md].toArray 69 (0, 0))) [8, 9, 11, 12] hg ?_
    clear hg
    intro w hg
    have hS : (fun w => w.heap[pc]? = some (.cells [.int .i64 room, .map (some bm), .pointer (some ⟨ph, 0, none⟩)].toArray 144 (0, 0)) ∧ w.heap[bm]? = some (.map es clock) ∧ w.heap[bs]? = some (.cells [.int .i64 a, .int .i64 md].toArray 69 (0, 0))) w := ⟨hg.own (pc, .cells [.int .i64 room, .map (some bm), .pointer (some ⟨ph, 0, none⟩)].toArray 144 (0, 0)) (by simp), hg.own (bm, .map es clock) (by simp), hg.own (bs, .cells [.int .i64 a, .int .i64 md].toArray 69 (0, 0)) (by simp)⟩
    refine WA.passM 0 hS ?_
    refine WA.passM 1 hS ?_
    refine WA.passM 2 hS ?_
    refine WA.passM 4 hS ?_
    refine WA.passM 3 hS ?_
    refine WA.passM 5 hS ?_
    refine WA.passM 6 hS ?_
    refine WA.passM 7 hS ?_
    refine WA.passL 8 ?_
    refine WA.passL 9 ?_
    refine WA.only 10 ?_
    refine op_alloc hg ?_
    clear hg hS
    intro be w hg
    refine WO.fr ?_
    have hS : (fun w => w.heap[pc]? = some (.cells [.int .i64 room, .map (some bm), .pointer (some ⟨ph, 0, none⟩)].toArray 144 (0, 0)) ∧ w.heap[bm]? = some (.map es clock) ∧ w.heap[bs]? = some (.cells [.int .i64 a, .int .i64 md].toArray 69 (0, 0))) w := ⟨hg.own (pc, .cells [.int .i64 room, .map (some bm), .pointer (some ⟨ph, 0, none⟩)].toArray 144 (0, 0)) (by simp), hg.own (bm, .map es clock) (by simp), hg.own (bs, .cells [.int .i64 a, .int .i64 md].toArray 69 (0, 0)) (by simp)⟩
    refine WO.nilA hS ?_
    refine WA.only 11 ?_
    refine op_storeA hg ?_
    clear hg hS
    intro w hg
    simp only [over, List.take_zero, List.take_succ_cons, List.drop_zero, List.drop_succ_cons, List.nil_append, List.cons_append, List.append_nil, List.length_cons, List.length_nil, Nat.zero_add, Nat.reduceAdd] at hg
    refine WO.fr ?_
    refine WO.nilL ?_
    refine WA.passL 12 ?_
    refine WA.nil ?_
    clear s1 s2 k1
    repeat' (first | refine zN ?_ | ((with_reducible refine WQ.nilG ?_); intro w hg) | (refine zB ?_; clear hg; intro b w hg; refine WO.fr ?_) | (refine zW ?_; clear hg; intro w hg; refine WO.fr ?_) | (refine op_pureB hg ?_; clear hg; intro w hg c hc; cases c <;> refine WO.fr ?_))
    have s1 : ∀ {w : World}, (w.heap[pc]? = some (.cells [.int .i64 room, .map (some bm), .pointer (some ⟨ph, 0, none⟩)].toArray 144 (0, 0)) ∧ w.heap[bm]? = some (.map es clock)) → w.cell? ⟨pc, 1, none⟩ = some (.map (some bm)) := fun h => heap_cell h.1 rfl
    have s2 : ∀ {w : World}, (w.heap[pc]? = some (.cells [.int .i64 room, .map (some bm), .pointer (some ⟨ph, 0, none⟩)].toArray 144 (0, 0)) ∧ w.heap[bm]? = some (.map es clock)) → w.cell? ⟨pc, 0, none⟩ = some (.int .i64 room) := fun h => heap_cell h.1 rfl
    have k2 : ∀ {w : World} {l : List Value} {T : TypeId} {x : Operand}, (w.heap[pc]? = some (.cells [.int .i64 room, .map (some bm), .pointer (some ⟨ph, 0, none⟩)].toArray 144 (0, 0)) ∧ w.heap[bm]? = some (.map es clock)) → ev l x = .map (some bm) → Runs Tryz.prog l (.call { callee := .builtin .len, args := #[x], argTypes := #[140] }) T w (.int .i64 m.length) := fun h hx => hm.size ▸ x_lenMap h.2 hx
    have hnin : a ∉ plc ws := fun hin => by
      have := (hR.has a).2 hin
      rw [hmg] at this
      cases this
    have hah : ¬ ((ws[ahead ws a]?).map (·.at') = some a) := fun h => hnin ((at_ahead hR.sorted).1 h)
    by_cases hfull : room ≤ m.length
    · skip
      refine WC.drawn (fun w => w.heap[pc]? = some (.cells [.int .i64 room, .map (some bm), .pointer (some ⟨ph, 0, none⟩)].toArray 144 (0, 0)) ∧ w.heap[bm]? = some (.map es clock)) [] hg ?_
      clear hg
      intro w hg
      have hS : (fun w => w.heap[pc]? = some (.cells [.int .i64 room, .map (some bm), .pointer (some ⟨ph, 0, none⟩)].toArray 144 (0, 0)) ∧ w.heap[bm]? = some (.map es clock)) w := ⟨hg.own (pc, .cells [.int .i64 room, .map (some bm), .pointer (some ⟨ph, 0, none⟩)].toArray 144 (0, 0)) (by simp), hg.own (bm, .map es clock) (by simp)⟩
      refine WA.passM 0 hS ?_
      refine WA.passM 1 hS ?_
      refine WA.passM 2 hS ?_
      refine WA.passM 5 hS ?_
      refine WA.passM 6 hS ?_
      refine WA.passM 7 hS ?_
      refine WA.passM 3 hS ?_
      refine WA.passM 4 hS ?_
      refine WA.passM 8 hS ?_
      refine WA.passM 9 hS ?_
      refine WA.nil ?_
      repeat' (first | refine zN ?_ | ((with_reducible refine WQ.nilG ?_); intro w hg) | (refine zB ?_; clear hg; intro b w hg; refine WO.fr ?_) | (refine zW ?_; clear hg; intro w hg; refine WO.fr ?_) | (refine op_pureB hg ?_; clear hg; intro w hg c hc; cases c <;> refine WO.fr ?_))
      have hrp : rput ws ⟨a, md, t⟩ room = (ws, false) := by
        unfold rput
        simp only [hah, if_false, if_pos (show room ≤ (ws.length : Int) from by omega)]
      rw [hrp]
      exact ret1 rfl ⟨m, h, _, rfl, hK, hR, ((((((hg.front 2).front 2).front 2).front 5).front 5).front 5).unthree.sub (by simp)⟩
    · skip
      refine WC.drawn (fun w => w.heap[pc]? = some (.cells [.int .i64 room, .map (some bm), .pointer (some ⟨ph, 0, none⟩)].toArray 144 (0, 0)) ∧ w.heap[bm]? = some (.map es clock)) [] hg ?_
      clear hg
      intro w hg
      have hS : (fun w => w.heap[pc]? = some (.cells [.int .i64 room, .map (some bm), .pointer (some ⟨ph, 0, none⟩)].toArray 144 (0, 0)) ∧ w.heap[bm]? = some (.map es clock)) w := ⟨hg.own (pc, .cells [.int .i64 room, .map (some bm), .pointer (some ⟨ph, 0, none⟩)].toArray 144 (0, 0)) (by simp), hg.own (bm, .map es clock) (by simp)⟩
      refine WA.passM 0 hS ?_
      refine WA.passM 1 hS ?_
      refine WA.passM 2 hS ?_
      refine WA.passM 5 hS ?_
      refine WA.passM 6 hS ?_
      refine WA.passM 7 hS ?_
      refine WA.passM 3 hS ?_
      refine WA.passM 4 hS ?_
      refine WA.passM 8 hS ?_
      refine WA.passM 9 hS ?_
      refine WA.nil ?_
      repeat' (first | refine zN ?_ | ((with_reducible refine WQ.nilG ?_); intro w hg) | (refine zB ?_; clear hg; intro b w hg; refine WO.fr ?_) | (refine zW ?_; clear hg; intro w hg; refine WO.fr ?_) | (refine op_pureB hg ?_; clear hg; intro w hg c hc; cases c <;> refine WO.fr ?_))
      clear s1 s2 k2
      have s1 : ∀ {w : World}, (w.heap[pc]? = some (.cells [.int .i64 room, .map (some bm), .pointer (some ⟨ph, 0, none⟩)].toArray 144 (0, 0)) ∧ w.heap[bs]? = some (.cells [.int .i64 a, .int .i64 md].toArray 69 (0, 0))) → w.cell? ⟨pc, 2, none⟩ = some (.pointer (some ⟨ph, 0, none⟩)) := fun h => heap_cell h.1 rfl
      have s2 : ∀ {w : World}, (w.heap[pc]? = some (.cells [.int .i64 room, .map (some bm), .pointer (some ⟨ph, 0, none⟩)].toArray 144 (0, 0)) ∧ w.heap[bs]? = some (.cells [.int .i64 a, .int .i64 md].toArray 69 (0, 0))) → w.cell? ⟨bs, 0, none⟩ = some (.int .i64 a) := fun h => heap_cell h.2 rfl
      refine WC.drawn (fun w => w.heap[pc]? = some (.cells [.int .i64 room, .map (some bm), .pointer (some ⟨ph, 0, none⟩)].toArray 144 (0, 0)) ∧ w.heap[bs]? = some (.cells [.int .i64 a, .int .i64 md].toArray 69 (0, 0))) [8] hg ?_
      clear hg
      intro w hg
      have hS : (fun w => w.heap[pc]? = some (.cells [.int .i64 room, .map (some bm), .pointer (some ⟨ph, 0, none⟩)].toArray 144 (0, 0)) ∧ w.heap[bs]? = some (.cells [.int .i64 a, .int .i64 md].toArray 69 (0, 0))) w := ⟨hg.own (pc, .cells [.int .i64 room, .map (some bm), .pointer (some ⟨ph, 0, none⟩)].toArray 144 (0, 0)) (by simp), hg.own (bs, .cells [.int .i64 a, .int .i64 md].toArray 69 (0, 0)) (by simp)⟩
      refine WA.passM 0 hS ?_
      refine WA.passM 1 hS ?_
      refine WA.passM 2 hS ?_
      refine WA.passM 5 hS ?_
      refine WA.passM 3 hS ?_
      refine WA.passM 4 hS ?_
      refine WA.passM 6 hS ?_
      refine WA.passM 7 hS ?_
      refine WA.only 8 ?_
      refine op_call (hPush_spec a (hg.front 4).owns1 hH hR.heap (by omega)) ?_
      rintro _ w2 ⟨h', fh', ⟨v, rfl⟩, hH', hp', hhp', hg2⟩
      replace hg := (hg.front 4).callF hg2
      clear hg2 hS s1 s2
      refine ⟨_, rfl, ?_⟩
      refine WO.fr ?_
      refine WO.nilL ?_
      refine WA.nil ?_
      repeat' (first | refine zN ?_ | ((with_reducible refine WQ.nilG ?_); intro w hg) | (refine zB ?_; clear hg; intro b w hg; refine WO.fr ?_) | (refine zW ?_; clear hg; intro w hg; refine WO.fr ?_) | (refine op_pureB hg ?_; clear hg; intro w hg c hc; cases c <;> refine WO.fr ?_))
      have s3 : ∀ {w : World}, (w.heap[pc]? = some (.cells [.int .i64 room, .map (some bm), .pointer (some ⟨ph, 0, none⟩)].toArray 144 (0, 0)) ∧ w.heap[bs]? = some (.cells [.int .i64 a, .int .i64 md].toArray 69 (0, 0)) ∧ w.heap[b]? = some (.cells [.int .i64 t.kind, .int .i64 t.rule, .int .i64 t.fr, .int .i64 t.at', .int .i64 t.to, .int .i64 t.mode].toArray 48 (0, 0))) → w.cell? ⟨pc, 1, none⟩ = some (.map (some bm)) := fun h => heap_cell h.1 rfl
      have s4 : ∀ {w : World}, (w.heap[pc]? = some (.cells [.int .i64 room, .map (some bm), .pointer (some ⟨ph, 0, none⟩)].toArray 144 (0, 0)) ∧ w.heap[bs]? = some (.cells [.int .i64 a, .int .i64 md].toArray 69 (0, 0)) ∧ w.heap[b]? = some (.cells [.int .i64 t.kind, .int .i64 t.rule, .int .i64 t.fr, .int .i64 t.at', .int .i64 t.to, .int .i64 t.mode].toArray 48 (0, 0))) → w.cell? ⟨bs, 0, none⟩ = some (.int .i64 a) := fun h => heap_cell h.2.1 rfl
      have s5 : ∀ {w : World}, (w.heap[pc]? = some (.cells [.int .i64 room, .map (some bm), .pointer (some ⟨ph, 0, none⟩)].toArray 144 (0, 0)) ∧ w.heap[bs]? = some (.cells [.int .i64 a, .int .i64 md].toArray 69 (0, 0)) ∧ w.heap[b]? = some (.cells [.int .i64 t.kind, .int .i64 t.rule, .int .i64 t.fr, .int .i64 t.at', .int .i64 t.to, .int .i64 t.mode].toArray 48 (0, 0))) → w.cell? ⟨bs, 1, none⟩ = some (.int .i64 md) := fun h => heap_cell h.2.1 rfl
      have t1 : ∀ {w : World}, (w.heap[pc]? = some (.cells [.int .i64 room, .map (some bm), .pointer (some ⟨ph, 0, none⟩)].toArray 144 (0, 0)) ∧ w.heap[bs]? = some (.cells [.int .i64 a, .int .i64 md].toArray 69 (0, 0)) ∧ w.heap[b]? = some (.cells [.int .i64 t.kind, .int .i64 t.rule, .int .i64 t.fr, .int .i64 t.at', .int .i64 t.to, .int .i64 t.mode].toArray 48 (0, 0))) → Cells w ⟨b, 0, none⟩ [.int .i64 t.kind, .int .i64 t.rule, .int .i64 t.fr, .int .i64 t.at', .int .i64 t.to, .int .i64 t.mode] := fun h => heap_cells h.2.2 rfl
      refine WC.drawn (fun w => w.heap[pc]? = some (.cells [.int .i64 room, .map (some bm), .pointer (some ⟨ph, 0, none⟩)].toArray 144 (0, 0)) ∧ w.heap[bs]? = some (.cells [.int .i64 a, .int .i64 md].toArray 69 (0, 0)) ∧ w.heap[b]? = some (.cells [.int .i64 t.kind, .int .i64 t.rule, .int .i64 t.fr, .int .i64 t.at', .int .i64 t.to, .int .i64 t.mode].toArray 48 (0, 0))) [10] hg ?_
      clear hg
      intro w hg
      have hS : (fun w => w.heap[pc]? = some (.cells [.int .i64 room, .map (some bm), .pointer (some ⟨ph, 0, none⟩)].toArray 144 (0, 0)) ∧ w.heap[bs]? = some (.cells [.int .i64 a, .int .i64 md].toArray 69 (0, 0)) ∧ w.heap[b]? = some (.cells [.int .i64 t.kind, .int .i64 t.rule, .int .i64 t.fr, .int .i64 t.at', .int .i64 t.to, .int .i64 t.mode].toArray 48 (0, 0))) w := ⟨hg.own (pc, .cells [.int .i64 room, .map (some bm), .pointer (some ⟨ph, 0, none⟩)].toArray 144 (0, 0)) (by simp), hg.own (bs, .cells [.int .i64 a, .int .i64 md].toArray 69 (0, 0)) (by simp), hg.own (b, .cells [.int .i64 t.kind, .int .i64 t.rule, .int .i64 t.fr, .int .i64 t.at', .int .i64 t.to, .int .i64 t.mode].toArray 48 (0, 0)) (by simp)⟩
      refine WA.passM 0 hS ?_
      refine WA.passM 1 hS ?_
      refine WA.passM 2 hS ?_
      refine WA.passM 4 hS ?_
      refine WA.passM 6 hS ?_
      refine WA.passM 3 hS ?_
      refine WA.passM 5 hS ?_
      refine WA.passM 7 hS ?_
      refine WA.passM 8 hS ?_
      refine WA.passM 9 hS ?_
      refine WA.only 10 ?_
      refine op_mapUpdate (u := (⟨md, t⟩ : Ent)) (hg.front 5) hm ?_
      clear hg hS
      intro es' clock' w hm' hg
      refine WO.fr ?_
      refine WO.nilL ?_
      refine WA.nil ?_
      clear s3 s4 s5 t1
      repeat' (first | refine zN ?_ | ((with_reducible refine WQ.nilG ?_); intro w hg) | (refine zB ?_; clear hg; intro b w hg; refine WO.fr ?_) | (refine zW ?_; clear hg; intro w hg; refine WO.fr ?_) | (refine op_pureB hg ?_; clear hg; intro w hg c hc; cases c <;> refine WO.fr ?_))
      have hrp : rput ws ⟨a, md, t⟩ room = (ws.take (ahead ws a) ++ ⟨a, md, t⟩ :: ws.drop (ahead ws a), true) := by
        unfold rput
        simp only [hah, if_false, if_neg (show ¬ room ≤ (ws.length : Int) from by omega)]
      rw [hrp]
      refine ret1 rfl ⟨mset m a ⟨md, t⟩, h', _, rfl, ⟨ph, bm, clock', es', fh', rfl, hH', hm'⟩, ?_, ((((((hg.front 4).front 4).front 4).front 3).front 4).front 5).unthree.sub (by simp)⟩
      have := hR.insert ⟨a, md, t⟩ hnin hp' hhp'
      have e2 : (fun p => if a = p then some (⟨md, t⟩ : Ent) else mget m p) = mget (mset m a ⟨md, t⟩) := funext fun p => (mget_mset m a ⟨md, t⟩ p).symm
      rw [← e2]
      exact this
end Go.Proofs.YtkdidefghbeabaaGreat
namespace Go.Proofs.YtkdidefghbeabaaGreat
open Go Go.RowKit
set_option maxRecDepth 10000
set_option linter.unusedSimpArgs false
set_option linter.unusedVariables false

set_option maxHeartbeats 4000000 in
theorem CSweep_spec {pc : Nat} {room : Int} {m : List (Int × Ent)} {h : List Int} {f : Frag} {w0 : World} {ws : List CE} (floor most : Int) (hO : Owns w0 f) (hF : CacheF pc room m h f) (hR : CRel ws (mget m) h) (hn : ws.length ≤ 800000) :
    Calls Tryz.prog 69 #[.pointer (some ⟨pc, 0, none⟩), .int .i64 floor, .int .i64 most] w0 fun e w' => ∃ m' h' f', e = .returned (.int .i64 (rsweep ws floor most)) ∧ CacheF pc room m' h' f' ∧ CRel (ws.drop (rsweep ws floor most)) (mget m') h' ∧ Goes w0 (keys f) [f'] w' := by
  have hg := hO.goes
  refine enter Tryz.func69 rfl (by simp only [Tryz.ntmps69, List.length_cons, List.length_nil, Nat.reduceAdd, Nat.reduceSub, List.replicate_succ, List.replicate_zero, List.cons_append, List.nil_append]; exact rfl) ?_
  repeat' (first | refine zN ?_ | (refine WC.quietG hg ?_; clear hg) | ((with_reducible refine WQ.nilG ?_); intro w hg) | (refine zB ?_; clear hg; intro b w hg; refine WO.fr ?_) | (refine zW ?_; clear hg; intro w hg; refine WO.fr ?_) | (refine op_pureB hg ?_; clear hg; intro w hg c hc; cases c <;> refine WO.fr ?_))
  refine WC.loopS [7, 8, 9, 10, 11, 12, 13, 14, 15, 16, 17, 18, 19, 20, 21, 22, 23, 24, 25, 26, 27, 28, 29, 30, 31, 32, 33, 34, 35, 36, 37] (fun xs d w => ∃ (n : Nat) (m' : List (Int × Ent)) (h' : List Int) (f' : Frag), d = [] ∧ (gt xs 0) = .int .i64 n ∧ n ≤ ws.length ∧ CacheF pc room m' h' f' ∧ CRel (ws.drop n) (mget m') h' ∧ rsweep ws floor most = n + rsweep (ws.drop n) floor (most - n) ∧ Goes w0 (keys f) [f'] w) (fun xs _ _ => ws.length - (intOf (gt xs 0)).toNat) ?_ ?_
  · exact ⟨0, m, h, f, rfl, rfl, Nat.zero_le _, hF, hR, by simp, hg⟩
  clear hg hF hR
  intro xs d w hlen hI K hK
  replace hlen := len_cons hlen
  obtain ⟨x7, xs, rfl, hlen⟩ := hlen
  replace hlen := len_cons hlen
  obtain ⟨x8, xs, rfl, hlen⟩ := hlen
  replace hlen := len_cons hlen
  obtain ⟨x9, xs, rfl, hlen⟩ := hlen
  replace hlen := len_cons hlen
  obtain ⟨x10, xs, rfl, hlen⟩ := hlen
  replace hlen := len_cons hlen
  obtain ⟨x11, xs, rfl, hlen⟩ := hlen
  replace hlen := len_cons hlen
  obtain ⟨x12, xs, rfl, hlen⟩ := hlen
  replace hlen := len_cons hlen
  obtain ⟨x13, xs, rfl, hlen⟩ := hlen
  replace hlen := len_cons hlen
  obtain ⟨x14, xs, rfl, hlen⟩ := hlen
  replace hlen := len_cons hlen
  obtain ⟨x15, xs, rfl, hlen⟩ := hlen
  replace hlen := len_cons hlen
  obtain ⟨x16, xs, rfl, hlen⟩ := hlen
  replace hlen := len_cons hlen
  obtain ⟨x17, xs, rfl, hlen⟩ := hlen
  replace hlen := len_cons hlen
  obtain ⟨x18, xs, rfl, hlen⟩ := hlen
  replace hlen := len_cons hlen
  obtain ⟨x19, xs, rfl, hlen⟩ := hlen
  replace hlen := len_cons hlen
  obtain ⟨x20, xs, rfl, hlen⟩ := hlen
  replace hlen := len_cons hlen
  obtain ⟨x21, xs, rfl, hlen⟩ := hlen
  replace hlen := len_cons hlen
  obtain ⟨x22, xs, rfl, hlen⟩ := hlen
  replace hlen := len_cons hlen
  obtain ⟨x23, xs, rfl, hlen⟩ := hlen
  replace hlen := len_cons hlen
  obtain ⟨x24, xs, rfl, hlen⟩ := hlen
  replace hlen := len_cons hlen
  obtain ⟨x25, xs, rfl, hlen⟩ := hlen
  replace hlen := len_cons hlen
  obtain ⟨x26, xs, rfl, hlen⟩ := hlen
  replace hlen := len_cons hlen
  obtain ⟨x27, xs, rfl, hlen⟩ := hlen
  replace hlen := len_cons hlen
  obtain ⟨x28, xs, rfl, hlen⟩ := hlen
  replace hlen := len_cons hlen
  obtain ⟨x29, xs, rfl, hlen⟩ := hlen
  replace hlen := len_cons hlen
  obtain ⟨x30, xs, rfl, hlen⟩ := hlen
  replace hlen := len_cons hlen
  obtain ⟨x31, xs, rfl, hlen⟩ := hlen
  replace hlen := len_cons hlen
  obtain ⟨x32, xs, rfl, hlen⟩ := hlen
  replace hlen := len_cons hlen
  obtain ⟨x33, xs, rfl, hlen⟩ := hlen
  replace hlen := len_cons hlen
  obtain ⟨x34, xs, rfl, hlen⟩ := hlen
  replace hlen := len_cons hlen
  obtain ⟨x35, xs, rfl, hlen⟩ := hlen
  replace hlen := len_cons hlen
  obtain ⟨x36, xs, rfl, hlen⟩ := hlen
  replace hlen := len_cons hlen
  obtain ⟨x37, xs, rfl, hlen⟩ := hlen
  replace hlen := len_nil hlen
  subst hlen
  refine WC.frame (by simp only [setAll, List.set_cons_succ, List.set_cons_zero]; exact rfl) ?_
  try simp only [gt] at hI
  obtain ⟨n, m', h', f', rfl, rfl, hnl, hF, hR, hS, hg⟩ := hI
  by_cases hm0 : (n : Int) < most
  rotate_left
  · rw [rsweep_zero (w := ws.drop n) (m := most - n) (by omega), Nat.add_zero] at hS
    repeat' (first | refine zN ?_ | (refine WC.quietG hg ?_; clear hg) | ((with_reducible refine WQ.nilG ?_); intro w hg) | (refine zB ?_; clear hg; intro b w hg; refine WO.fr ?_) | (refine zW ?_; clear hg; intro w hg; refine WO.fr ?_) | (refine op_pureB hg ?_; clear hg; intro w hg c hc; cases c <;> refine WO.fr ?_))
    exact ret1 rfl ⟨m', h', f', by rw [hS]; rfl, hF, by rw [hS]; exact hR, hg⟩
  have hhl := hR.len
  simp only [List.length_drop] at hhl
  repeat' (first | refine zN ?_ | (refine WC.quietG hg ?_; clear hg) | ((with_reducible refine WQ.nilG ?_); intro w hg) | (refine zB ?_; clear hg; intro b w hg; refine WO.fr ?_) | (refine zW ?_; clear hg; intro w hg; refine WO.fr ?_) | (refine op_pureB hg ?_; clear hg; intro w hg c hc; cases c <;> refine WO.fr ?_))
  refine op_pure hg ?_ (hc := Least_spec hg.owns1 hF (by omega))
  clear hg
  intro w hg
  cases hd : ws.drop n with
  | nil =>
    rw [hd, rsweep_nil, Nat.add_zero] at hS
    have hl0 : h'.length = 0 := by have := congrArg List.length hd; simp at this; omega
    rw [show decide (0 < h'.length) = false from by simp [hl0]]
    refine WO.fr ?_
    repeat' (first | refine zN ?_ | (refine WC.quietG hg ?_; clear hg) | ((with_reducible refine WQ.nilG ?_); intro w hg) | (refine zB ?_; clear hg; intro b w hg; refine WO.fr ?_) | (refine zW ?_; clear hg; intro w hg; refine WO.fr ?_) | (refine op_pureB hg ?_; clear hg; intro w hg c hc; cases c <;> refine WO.fr ?_))
    exact ret1 rfl ⟨m', h', f', by rw [hS]; rfl, hF, by rw [hS]; exact hR, hg⟩
  | cons x w2 =>
    rw [hd, rsweep_cons x w2 _ _ (by omega)] at hS
    have hl0 : 0 < h'.length := by have := congrArg List.length hd; simp at this; omega
    have hR1 := hR
    rw [hd] at hR1
    have hle := hR1.least
    rw [show decide (0 < h'.length) = true from by simp [hl0], hle]
    have hd2 : ws.drop (n + 1) = w2 := by rw [← List.drop_drop, hd]; rfl
    have hnl1 : n + 1 ≤ ws.length := by have := congrArg List.length hd; simp at this; omega
    refine WO.fr ?_
    by_cases hfl : x.at' < floor
    rotate_left
    · rw [if_neg hfl, Nat.add_zero] at hS
      repeat' (first | refine zN ?_ | (refine WC.quietG hg ?_; clear hg) | ((with_reducible refine WQ.nilG ?_); intro w hg) | (refine zB ?_; clear hg; intro b w hg; refine WO.fr ?_) | (refine zW ?_; clear hg; intro w hg; refine WO.fr ?_) | (refine op_pureB hg ?_; clear hg; intro w hg c hc; cases c <;> refine WO.fr ?_))
      exact ret1 rfl ⟨m', h', f', by rw [hS]; rfl, hF, by rw [hS]; exact hR, hg⟩
    · rw [if_pos hfl] at hS
      obtain ⟨ph, bm, clock, es, fh, rfl, hH, hm⟩ := hF
      replace hg := hg.three
      repeat' (first | refine zN ?_ | (refine WC.quietG hg ?_; clear hg) | ((with_reducible refine WQ.nilG ?_); intro w hg) | (refine zB ?_; clear hg; intro b w hg; refine WO.fr ?_) | (refine zW ?_; clear hg; intro w hg; refine WO.fr ?_) | (refine op_pureB hg ?_; clear hg; intro w hg c hc; cases c <;> refine WO.fr ?_))
      refine op_mkIface ?_
      refine WO.fr ?_
      refine op_call (hPop_spec (hg.front 1).owns1 hH hR.heap hl0 (by omega)) ?_
      rintro _ w3 ⟨h2, fh2, ⟨v, rfl⟩, hH2, hp2, hhp2, hg2⟩
      replace hg := (hg.front 1).callF hg2
      clear hg2
      refine ⟨_, rfl, ?_⟩
      refine WO.fr ?_
      repeat' (first | refine zN ?_ | (refine WC.quietG hg ?_; clear hg) | ((with_reducible refine WQ.nilG ?_); intro w hg) | (refine zB ?_; clear hg; intro b w hg; refine WO.fr ?_) | (refine zW ?_; clear hg; intro w hg; refine WO.fr ?_) | (refine op_pureB hg ?_; clear hg; intro w hg c hc; cases c <;> refine WO.fr ?_))
      refine op_delete (hg.front 2) hm ?_
      clear hg
      intro es2 w hm2 hg
      refine WO.fr ?_
      repeat' (first | refine zN ?_ | (refine WC.quietG hg ?_; clear hg) | ((with_reducible refine WQ.nilG ?_); intro w hg) | (refine zB ?_; clear hg; intro b w hg; refine WO.fr ?_) | (refine zW ?_; clear hg; intro w hg; refine WO.fr ?_) | (refine op_pureB hg ?_; clear hg; intro w hg c hc; cases c <;> refine WO.fr ?_))
      rw [hle] at hp2
      have hpop := hR1.pop hp2 hhp2
      have e2 : (fun p => if x.at' = p then none else mget m' p) = mget (mdel m' x.at') := funext fun p => (mget_mdel m' x.at' p hm.nodup).symm
      rw [e2] at hpop
      with_reducible refine QX.norm ?_
      refine hK _ _ _ ?_ ?_ ?_
      · simp only [setAll, List.map_cons, List.map_nil, gt, List.set_cons_succ, List.set_cons_zero]
      all_goals try simp only [List.map_cons, List.map_nil, gt, intOf]
      · refine ⟨n + 1, mdel m' x.at', h2, _, trivial, rfl, hnl1, ⟨ph, bm, clock, es2, fh2, rfl, hH2, hm2⟩, by rw [hd2]; exact hpop, ?_, ((hg.front 1).front 2).unthree⟩
        rw [hd2, hS, show most - ((n + 1 : Nat) : Int) = most - (n : Int) - 1 from by omega]
        omega
      · omega
end Go.Proofs.YtkdidefghbeabaaGreat
namespace Go.Proofs.YtkdidefghbeabaaGreat
open Go Go.RowKit
set_option maxRecDepth 10000
set_option linter.unusedSimpArgs false
set_option linter.unusedVariables false

theorem CGetR_spec {pc : Nat} {room : Int} {m : List (Int × Ent)} {h : List Int} {f : Frag} {w0 : World} {ws : List CE} (a md : Int) (hO : Owns w0 f) (hF : CacheF pc room m h f) (hR : CRel ws (mget m) h) :
    Calls Tryz.prog 94 #[.pointer (some ⟨pc, 0, none⟩), .agg [.int .i64 a, .int .i64 md].toArray] w0 fun e w' => e = .returned (match rget ws a md with
      | some e => .tuple #[.agg e.tok.enc.toArray, .bool true]
      | none => .tuple #[.agg Tok.none.enc.toArray, .bool false]) ∧ Goes w0 (keys f) [f] w' := by
  have hr := hR.rget a md
  refine (CGet_spec a md hO hF).mono ?_
  rintro e w' ⟨rfl, hg⟩
  refine ⟨?_, hg⟩
  rw [hr]
  cases mget m a with
  | none => rfl
  | some x =>
    by_cases hm : x.mode = md
    · simp only [Option.bind_some, if_pos hm]
    · simp only [Option.bind_some, if_neg hm]

def tokA (k : Int) : Tok := ⟨k, 0, 0, 0, 0, 0⟩
end Go.Proofs.YtkdidefghbeabaaGreat
