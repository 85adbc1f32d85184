/- The cache: Get, Put. -/
import Derived.Test.YtdjepfpmoeecaaaCaD
namespace Go.Proofs.Ytdjepfpmoeecaaa
open Go Go.RowKit
set_option maxRecDepth 10000
set_option linter.unusedSimpArgs false
set_option linter.unusedVariables false

theorem look_none {es : Array MapEntry} {clock bm : Nat} {m : List (Int × Ent)} {a : Int} {w : World} {l : List Value} {ty : TypeId} {x y : Operand} (hb : w.heap[bm]? = some (.map es clock)) (hm : MapIs Ent.val es clock m) (hmg : mget m a = none) (hx : ev l x = .map (some bm)) (hy : ev l y = .int .i64 a) :
    Runs Try.prog l (.lookup 51 x y true) ty w (.tuple (List.toArray [.agg [.int .i64 0, .int .i64 0, .int .i64 0, .int .i64 0, .int .i64 0, .int .i64 0, .int .i64 0].toArray, .bool false])) := by
  have := x_lookupOk (P := Try.prog) (t := 51) (zv := Ent.zero.val) (ty := ty) hb hm hx hy (hz := by kernel_rfl)
  rw [hmg] at this
  exact this
theorem look_some {es : Array MapEntry} {clock bm : Nat} {m : List (Int × Ent)} {a : Int} {e : Ent} {w : World} {l : List Value} {ty : TypeId} {x y : Operand} (hb : w.heap[bm]? = some (.map es clock)) (hm : MapIs Ent.val es clock m) (hmg : mget m a = some e) (hx : ev l x = .map (some bm)) (hy : ev l y = .int .i64 a) :
    Runs Try.prog l (.lookup 51 x y true) ty w (.tuple (List.toArray [.agg [.int .i64 e.mode, .int .i64 e.tok.kind, .int .i64 e.tok.rule, .int .i64 e.tok.fr, .int .i64 e.tok.at', .int .i64 e.tok.to, .int .i64 e.tok.mode].toArray, .bool true])) := by
  have := x_lookupOk (P := Try.prog) (t := 51) (zv := Ent.zero.val) (ty := ty) hb hm hx hy (hz := by kernel_rfl)
  rw [hmg] at this
  exact this

set_option maxHeartbeats 2000000 in
theorem CGet_spec {pc : Nat} {room : Int} {m : List (Int × Ent)} {h : List Int} {f : Frag} {w0 : World} (a md : Int) (hO : Owns w0 f) (hF : CacheF pc room m h f) :
    Calls Try.prog 14 #[.pointer (some ⟨pc, 0, none⟩), .agg [.int .i64 a, .int .i64 md].toArray] w0 fun e w' => e = .returned (match (mget m a).bind fun e => if e.mode = md then some e else none with
      | some e => .tuple #[.agg e.tok.enc.toArray, .bool true]
      | none => .tuple #[.agg Tok.none.enc.toArray, .bool false]) ∧ Goes w0 (keys f) [f] w' := by
  obtain ⟨ph, bm, clock, es, fh, rfl, hH, hm⟩ := hF
  have hg := hO.goes.three
  have hK : CacheF pc room m h ([(pc, .cells [.int .i64 room, .map (some bm), .pointer (some ⟨ph, 0, none⟩)].toArray 54 (0, 0))] ++ (fh ++ [(bm, .map es clock)])) := ⟨ph, bm, clock, es, fh, rfl, hH, hm⟩
  have p1 : ∀ {w x y}, Goes w0 (keys ([(pc, .cells [.int .i64 room, .map (some bm), .pointer (some ⟨ph, 0, none⟩)].toArray 54 (0, 0))] ++ (fh ++ [(bm, .map es clock)]))) [x, y, [(pc, .cells [.int .i64 room, .map (some bm), .pointer (some ⟨ph, 0, none⟩)].toArray 54 (0, 0))], fh, [(bm, .map es clock)]] w → Calls Try.prog 43 #[.pointer (some ⟨pc, 0, none⟩)] w _ := fun g => cmade_spec (heap_cell (g.own (pc, .cells [.int .i64 room, .map (some bm), .pointer (some ⟨ph, 0, none⟩)].toArray 54 (0, 0)) (by simp)) rfl)
  refine enter Try.func14 rfl (by simp only [Try.ntmps14, List.length_cons, List.length_nil, Nat.reduceAdd, Nat.reduceSub, List.replicate_succ, List.replicate_zero, List.cons_append, List.nil_append]; exact rfl) ?_
  repeat' (first
    | with_reducible refine QX.next ?_ | with_reducible refine WC.seq ?_ | with_reducible refine WC.region ?_ | with_reducible refine WC.block ?_ | with_reducible refine QX.bnorm ?_ | with_reducible refine QX.bret ?_ | with_reducible refine QX.ret ?_ | with_reducible refine QX.exit ?_ | with_reducible refine QX.bsame ?_ | with_reducible refine QX.bother rfl ?_
    | with_reducible refine WO.nil ?_ | with_reducible refine WC.skip ?_ | with_reducible refine WC.ret ?_ | with_reducible refine WC.exit ?_ | ((with_reducible refine WC.id ?_); first | refine WC.condT rfl ?_ | refine WC.condF rfl ?_)
    | (refine WC.quietG hg ?_; clear hg) | ((with_reducible refine WQ.nilG ?_); intro w hg)
    | ((with_reducible refine WQ.cid ?_); first | refine WQ.xG ?_ | refine WQ.pure ?_)
    | ((with_reducible refine WQ.gid ?_); first | refine WQ.on rfl ?_ | refine WQ.offN rfl rfl ?_)
    | ((with_reducible refine WO.cid ?_); first
      | refine WO.x ?_ | (refine op_alloc hg ?_; clear hg; intro b w hg; refine WO.fr ?_) | (refine op_boxA hg ?_; clear hg; intro b w hg; refine WO.fr ?_) | (refine op_box1 hg ?_; clear hg; intro b w hg; refine WO.fr ?_)
      | (refine op_store hg ?_; clear hg; intro w hg; refine WO.fr ?_; try simp only [List.set_cons_succ, List.set_cons_zero] at hg)
      | (refine op_storeA hg ?_; clear hg; intro w hg; refine WO.fr ?_; try simp only [over, List.take_zero, List.take_succ_cons, List.drop_zero, List.drop_succ_cons, List.nil_append, List.cons_append, List.append_nil, List.length_cons, List.length_nil, Nat.zero_add, Nat.reduceAdd, splice, cellsL] at hg)
      | (refine op_pure hg ?_; clear hg; intro w hg; refine WO.fr ?_) | (refine op_pureB hg ?_; clear hg; intro w hg c hc; cases c <;> refine WO.fr ?_))
    | ((with_reducible refine WO.gid ?_); first | refine WO.on rfl ?_ | refine WO.offN rfl rfl ?_))
  rename_i bs _ _
  have s1 : ∀ {w : World}, (w.heap[pc]? = some (.cells [.int .i64 room, .map (some bm), .pointer (some ⟨ph, 0, none⟩)].toArray 54 (0, 0)) ∧ w.heap[bm]? = some (.map es clock) ∧ w.heap[bs]? = some (.cells [.int .i64 a, .int .i64 md].toArray 27 (0, 0))) → w.cell? ⟨pc, 1, none⟩ = some (.map (some bm)) := fun h => heap_cell h.1 rfl
  have s2 : ∀ {w : World}, (w.heap[pc]? = some (.cells [.int .i64 room, .map (some bm), .pointer (some ⟨ph, 0, none⟩)].toArray 54 (0, 0)) ∧ w.heap[bm]? = some (.map es clock) ∧ w.heap[bs]? = some (.cells [.int .i64 a, .int .i64 md].toArray 27 (0, 0))) → w.cell? ⟨bs, 0, none⟩ = some (.int .i64 a) := fun h => heap_cell h.2.2 rfl
  cases hmg : mget m a with
  | none =>
    have k1 : ∀ {w : World} {l : List Value} {ty : TypeId} {x y : Operand}, (w.heap[pc]? = some (.cells [.int .i64 room, .map (some bm), .pointer (some ⟨ph, 0, none⟩)].toArray 54 (0, 0)) ∧ w.heap[bm]? = some (.map es clock) ∧ w.heap[bs]? = some (.cells [.int .i64 a, .int .i64 md].toArray 27 (0, 0))) → ev l x = .map (some bm) → ev l y = .int .i64 a → Runs Try.prog l (.lookup 51 x y true) ty w _ := fun h hx hy => look_none h.2.1 hm hmg hx hy
    refine WC.drawn (fun w => w.heap[pc]? = some (.cells [.int .i64 room, .map (some bm), .pointer (some ⟨ph, 0, none⟩)].toArray 54 (0, 0)) ∧ w.heap[bm]? = some (.map es clock) ∧ w.heap[bs]? = some (.cells [.int .i64 a, .int .i64 md].toArray 27 (0, 0))) [8, 9, 11, 12] hg ?_
    clear hg
    intro w hg
    have hS : (fun w => w.heap[pc]? = some (.cells [.int .i64 room, .map (some bm), .pointer (some ⟨ph, 0, none⟩)].toArray 54 (0, 0)) ∧ w.heap[bm]? = some (.map es clock) ∧ w.heap[bs]? = some (.cells [.int .i64 a, .int .i64 md].toArray 27 (0, 0))) w := ⟨hg.own (pc, .cells [.int .i64 room, .map (some bm), .pointer (some ⟨ph, 0, none⟩)].toArray 54 (0, 0)) (by simp), hg.own (bm, .map es clock) (by simp), hg.own (bs, .cells [.int .i64 a, .int .i64 md].toArray 27 (0, 0)) (by simp)⟩
    refine WA.passM 0 hS ?_
    refine WA.passM 1 hS ?_
    refine WA.passM 2 hS ?_
    refine WA.passM 4 hS ?_
    refine WA.passM 3 hS ?_
    refine WA.passM 5 hS ?_
    refine WA.passM 6 hS ?_
    refine WA.passM 7 hS ?_
    refine WA.passL 8 ?_
    refine WA.passL 9 ?_
    refine WA.only 10 ?_
    refine op_alloc hg ?_
    clear hg hS
    intro be w hg
    refine WO.fr ?_
    have hS : (fun w => w.heap[pc]? = some (.cells [.int .i64 room, .map (some bm), .pointer (some ⟨ph, 0, none⟩)].toArray 54 (0, 0)) ∧ w.heap[bm]? = some (.map es clock) ∧ w.heap[bs]? = some (.cells [.int .i64 a, .int .i64 md].toArray 27 (0, 0))) w := ⟨hg.own (pc, .cells [.int .i64 room, .map (some bm), .pointer (some ⟨ph, 0, none⟩)].toArray 54 (0, 0)) (by simp), hg.own (bm, .map es clock) (by simp), hg.own (bs, .cells [.int .i64 a, .int .i64 md].toArray 27 (0, 0)) (by simp)⟩
    refine WO.nilA hS ?_
    refine WA.only 11 ?_
    refine op_storeA hg ?_
    clear hg hS
    intro w hg
    simp only [over, List.take_zero, List.take_succ_cons, List.drop_zero, List.drop_succ_cons, List.nil_append, List.cons_append, List.append_nil, List.length_cons, List.length_nil, Nat.zero_add, Nat.reduceAdd] at hg
    refine WO.fr ?_
    refine WO.nilL ?_
    refine WA.passL 12 ?_
    refine WA.nil ?_
    clear s1 s2 k1
    repeat' (first
      | with_reducible refine QX.next ?_ | with_reducible refine WC.seq ?_ | with_reducible refine WC.region ?_ | with_reducible refine WC.block ?_ | with_reducible refine QX.bnorm ?_ | with_reducible refine QX.bret ?_ | with_reducible refine QX.ret ?_ | with_reducible refine QX.exit ?_ | with_reducible refine QX.bsame ?_ | with_reducible refine QX.bother rfl ?_
      | with_reducible refine WO.nil ?_ | with_reducible refine WC.skip ?_ | with_reducible refine WC.ret ?_ | with_reducible refine WC.exit ?_ | ((with_reducible refine WC.id ?_); first | refine WC.condT rfl ?_ | refine WC.condF rfl ?_)
      | (refine WC.quietG hg ?_; clear hg) | ((with_reducible refine WQ.nilG ?_); intro w hg)
      | ((with_reducible refine WQ.cid ?_); first | refine WQ.xG ?_ | refine WQ.pure ?_)
      | ((with_reducible refine WQ.gid ?_); first | refine WQ.on rfl ?_ | refine WQ.offN rfl rfl ?_)
      | ((with_reducible refine WO.cid ?_); first
        | refine WO.x ?_ | (refine op_alloc hg ?_; clear hg; intro b w hg; refine WO.fr ?_) | (refine op_boxA hg ?_; clear hg; intro b w hg; refine WO.fr ?_) | (refine op_box1 hg ?_; clear hg; intro b w hg; refine WO.fr ?_)
        | (refine op_store hg ?_; clear hg; intro w hg; refine WO.fr ?_; try simp only [List.set_cons_succ, List.set_cons_zero] at hg)
        | (refine op_storeA hg ?_; clear hg; intro w hg; refine WO.fr ?_; try simp only [over, List.take_zero, List.take_succ_cons, List.drop_zero, List.drop_succ_cons, List.nil_append, List.cons_append, List.append_nil, List.length_cons, List.length_nil, Nat.zero_add, Nat.reduceAdd, splice, cellsL] at hg)
        | (refine op_pure hg ?_; clear hg; intro w hg; refine WO.fr ?_) | (refine op_pureB hg ?_; clear hg; intro w hg c hc; cases c <;> refine WO.fr ?_))
      | ((with_reducible refine WO.gid ?_); first | refine WO.on rfl ?_ | refine WO.offN rfl rfl ?_))
    exact ret (.cells rfl (by first | with_reducible assumption | ((with_reducible apply Cells.ldn); (first | with_reducible assumption | ((with_reducible apply hg.cells0); with_reducible assumption) | with_reducible exact r1 hg | with_reducible exact r2 hg | with_reducible exact r3 hg | with_reducible exact t1 hs | with_reducible exact t2 hs | with_reducible exact t3 hs); exact rfl) | ((with_reducible apply CellsAt.ldn (hg := hg)); (repeat (first | ((with_reducible apply CellsAt.whole); exact rfl) | ((with_reducible apply CellsAt.here) <;> first | with_reducible assumption | (simp only [List.drop_zero, List.drop_succ_cons, List.take_succ_cons, List.take_zero]; exact rfl) | exact rfl) | with_reducible apply CellsAt.more | with_reducible apply CellsAt.next)); done)) (.tmp rfl .nil)) ⟨rfl, ((((((hg.front 2).front 2).front 2).front 5).front 5).front 5).unthree.sub (by simp)⟩
  | some e =>
    have k1 : ∀ {w : World} {l : List Value} {ty : TypeId} {x y : Operand}, (w.heap[pc]? = some (.cells [.int .i64 room, .map (some bm), .pointer (some ⟨ph, 0, none⟩)].toArray 54 (0, 0)) ∧ w.heap[bm]? = some (.map es clock) ∧ w.heap[bs]? = some (.cells [.int .i64 a, .int .i64 md].toArray 27 (0, 0))) → ev l x = .map (some bm) → ev l y = .int .i64 a → Runs Try.prog l (.lookup 51 x y true) ty w _ := fun h hx hy => look_some h.2.1 hm hmg hx hy
    refine WC.drawn (fun w => w.heap[pc]? = some (.cells [.int .i64 room, .map (some bm), .pointer (some ⟨ph, 0, none⟩)].toArray 54 (0, 0)) ∧ w.heap[bm]? = some (.map es clock) ∧ w.heap[bs]? = some (.cells [.int .i64 a, .int .i64 md].toArray 27 (0, 0))) [8, 9, 11, 12] hg ?_
    clear hg
    intro w hg
    have hS : (fun w => w.heap[pc]? = some (.cells [.int .i64 room, .map (some bm), .pointer (some ⟨ph, 0, none⟩)].toArray 54 (0, 0)) ∧ w.heap[bm]? = some (.map es clock) ∧ w.heap[bs]? = some (.cells [.int .i64 a, .int .i64 md].toArray 27 (0, 0))) w := ⟨hg.own (pc, .cells [.int .i64 room, .map (some bm), .pointer (some ⟨ph, 0, none⟩)].toArray 54 (0, 0)) (by simp), hg.own (bm, .map es clock) (by simp), hg.own (bs, .cells [.int .i64 a, .int .i64 md].toArray 27 (0, 0)) (by simp)⟩
    refine WA.passM 0 hS ?_
    refine WA.passM 1 hS ?_
    refine WA.passM 2 hS ?_
    refine WA.passM 4 hS ?_
    refine WA.passM 3 hS ?_
    refine WA.passM 5 hS ?_
    refine WA.passM 6 hS ?_
    refine WA.passM 7 hS ?_
    refine WA.passL 8 ?_
    refine WA.passL 9 ?_
    refine WA.only 10 ?_
    refine op_alloc hg ?_
    clear hg hS
    intro be w hg
    refine WO.fr ?_
    have hS : (fun w => w.heap[pc]? = some (.cells [.int .i64 room, .map (some bm), .pointer (some ⟨ph, 0, none⟩)].toArray 54 (0, 0)) ∧ w.heap[bm]? = some (.map es clock) ∧ w.heap[bs]? = some (.cells [.int .i64 a, .int .i64 md].toArray 27 (0, 0))) w := ⟨hg.own (pc, .cells [.int .i64 room, .map (some bm), .pointer (some ⟨ph, 0, none⟩)].toArray 54 (0, 0)) (by simp), hg.own (bm, .map es clock) (by simp), hg.own (bs, .cells [.int .i64 a, .int .i64 md].toArray 27 (0, 0)) (by simp)⟩
    refine WO.nilA hS ?_
    refine WA.only 11 ?_
    refine op_storeA hg ?_
    clear hg hS
    intro w hg
    simp only [over, List.take_zero, List.take_succ_cons, List.drop_zero, List.drop_succ_cons, List.nil_append, List.cons_append, List.append_nil, List.length_cons, List.length_nil, Nat.zero_add, Nat.reduceAdd] at hg
    refine WO.fr ?_
    refine WO.nilL ?_
    refine WA.passL 12 ?_
    refine WA.nil ?_
    clear s1 s2 k1
    by_cases hmd : e.mode = md
    · repeat' (first
        | with_reducible refine QX.next ?_ | with_reducible refine WC.seq ?_ | with_reducible refine WC.region ?_ | with_reducible refine WC.block ?_ | with_reducible refine QX.bnorm ?_ | with_reducible refine QX.bret ?_ | with_reducible refine QX.ret ?_ | with_reducible refine QX.exit ?_ | with_reducible refine QX.bsame ?_ | with_reducible refine QX.bother rfl ?_
        | with_reducible refine WO.nil ?_ | with_reducible refine WC.skip ?_ | with_reducible refine WC.ret ?_ | with_reducible refine WC.exit ?_ | ((with_reducible refine WC.id ?_); first | refine WC.condT rfl ?_ | refine WC.condF rfl ?_)
        | (refine WC.quietG hg ?_; clear hg) | ((with_reducible refine WQ.nilG ?_); intro w hg)
        | ((with_reducible refine WQ.cid ?_); first | refine WQ.xG ?_ | refine WQ.pure ?_)
        | ((with_reducible refine WQ.gid ?_); first | refine WQ.on rfl ?_ | refine WQ.offN rfl rfl ?_)
        | ((with_reducible refine WO.cid ?_); first
          | refine WO.x ?_ | (refine op_alloc hg ?_; clear hg; intro b w hg; refine WO.fr ?_) | (refine op_boxA hg ?_; clear hg; intro b w hg; refine WO.fr ?_) | (refine op_box1 hg ?_; clear hg; intro b w hg; refine WO.fr ?_)
          | (refine op_store hg ?_; clear hg; intro w hg; refine WO.fr ?_; try simp only [List.set_cons_succ, List.set_cons_zero] at hg)
          | (refine op_storeA hg ?_; clear hg; intro w hg; refine WO.fr ?_; try simp only [over, List.take_zero, List.take_succ_cons, List.drop_zero, List.drop_succ_cons, List.nil_append, List.cons_append, List.append_nil, List.length_cons, List.length_nil, Nat.zero_add, Nat.reduceAdd, splice, cellsL] at hg)
          | (refine op_pure hg ?_; clear hg; intro w hg; refine WO.fr ?_) | (refine op_pureB hg ?_; clear hg; intro w hg c hc; cases c <;> refine WO.fr ?_))
        | ((with_reducible refine WO.gid ?_); first | refine WO.on rfl ?_ | refine WO.offN rfl rfl ?_))
      exact ret (.cells rfl (by first | with_reducible assumption | ((with_reducible apply Cells.ldn); (first | with_reducible assumption | ((with_reducible apply hg.cells0); with_reducible assumption) | with_reducible exact r1 hg | with_reducible exact r2 hg | with_reducible exact r3 hg | with_reducible exact t1 hs | with_reducible exact t2 hs | with_reducible exact t3 hs); exact rfl) | ((with_reducible apply CellsAt.ldn (hg := hg)); (repeat (first | ((with_reducible apply CellsAt.whole); exact rfl) | ((with_reducible apply CellsAt.here) <;> first | with_reducible assumption | (simp only [List.drop_zero, List.drop_succ_cons, List.take_succ_cons, List.take_zero]; exact rfl) | exact rfl) | with_reducible apply CellsAt.more | with_reducible apply CellsAt.next)); done)) (.tmp rfl .nil)) ⟨by rw [show (some e).bind (fun e => if e.mode = md then some e else none) = some e from by simp [hmd]]; rfl, ((((((hg.front 2).front 2).front 2).front 5).front 5).front 5).unthree.sub (by simp)⟩
    · repeat' (first
        | with_reducible refine QX.next ?_ | with_reducible refine WC.seq ?_ | with_reducible refine WC.region ?_ | with_reducible refine WC.block ?_ | with_reducible refine QX.bnorm ?_ | with_reducible refine QX.bret ?_ | with_reducible refine QX.ret ?_ | with_reducible refine QX.exit ?_ | with_reducible refine QX.bsame ?_ | with_reducible refine QX.bother rfl ?_
        | with_reducible refine WO.nil ?_ | with_reducible refine WC.skip ?_ | with_reducible refine WC.ret ?_ | with_reducible refine WC.exit ?_ | ((with_reducible refine WC.id ?_); first | refine WC.condT rfl ?_ | refine WC.condF rfl ?_)
        | (refine WC.quietG hg ?_; clear hg) | ((with_reducible refine WQ.nilG ?_); intro w hg)
        | ((with_reducible refine WQ.cid ?_); first | refine WQ.xG ?_ | refine WQ.pure ?_)
        | ((with_reducible refine WQ.gid ?_); first | refine WQ.on rfl ?_ | refine WQ.offN rfl rfl ?_)
        | ((with_reducible refine WO.cid ?_); first
          | refine WO.x ?_ | (refine op_alloc hg ?_; clear hg; intro b w hg; refine WO.fr ?_) | (refine op_boxA hg ?_; clear hg; intro b w hg; refine WO.fr ?_) | (refine op_box1 hg ?_; clear hg; intro b w hg; refine WO.fr ?_)
          | (refine op_store hg ?_; clear hg; intro w hg; refine WO.fr ?_; try simp only [List.set_cons_succ, List.set_cons_zero] at hg)
          | (refine op_storeA hg ?_; clear hg; intro w hg; refine WO.fr ?_; try simp only [over, List.take_zero, List.take_succ_cons, List.drop_zero, List.drop_succ_cons, List.nil_append, List.cons_append, List.append_nil, List.length_cons, List.length_nil, Nat.zero_add, Nat.reduceAdd, splice, cellsL] at hg)
          | (refine op_pure hg ?_; clear hg; intro w hg; refine WO.fr ?_) | (refine op_pureB hg ?_; clear hg; intro w hg c hc; cases c <;> refine WO.fr ?_))
        | ((with_reducible refine WO.gid ?_); first | refine WO.on rfl ?_ | refine WO.offN rfl rfl ?_))
      exact ret (.cells rfl (by first | with_reducible assumption | ((with_reducible apply Cells.ldn); (first | with_reducible assumption | ((with_reducible apply hg.cells0); with_reducible assumption) | with_reducible exact r1 hg | with_reducible exact r2 hg | with_reducible exact r3 hg | with_reducible exact t1 hs | with_reducible exact t2 hs | with_reducible exact t3 hs); exact rfl) | ((with_reducible apply CellsAt.ldn (hg := hg)); (repeat (first | ((with_reducible apply CellsAt.whole); exact rfl) | ((with_reducible apply CellsAt.here) <;> first | with_reducible assumption | (simp only [List.drop_zero, List.drop_succ_cons, List.take_succ_cons, List.take_zero]; exact rfl) | exact rfl) | with_reducible apply CellsAt.more | with_reducible apply CellsAt.next)); done)) (.tmp rfl .nil)) ⟨by rw [show (some e).bind (fun e => if e.mode = md then some e else none) = none from by simp [hmd]]; rfl, ((((((hg.front 2).front 2).front 2).front 5).front 5).front 5).unthree.sub (by simp)⟩

theorem CGet_no {p : Option Addr} {w0 : World} (a md : Int) (hm : ∀ w, Goes w0 [] [] w → Calls Try.prog 43 #[.pointer p] w fun e w' => e = .returned (.bool false) ∧ Goes w [] [] w') :
    Calls Try.prog 14 #[.pointer p, .agg [.int .i64 a, .int .i64 md].toArray] w0 fun e w' => e = .returned (.tuple #[.agg Tok.none.enc.toArray, .bool false]) ∧ Goes w0 [] [] w' := by
  have hg := Goes.refl w0
  have p1 : ∀ {w Fs}, Goes w0 [] Fs w → Calls Try.prog 43 #[.pointer p] w _ := fun g => hm _ g.drop
  refine enter Try.func14 rfl (by simp only [Try.ntmps14, List.length_cons, List.length_nil, Nat.reduceAdd, Nat.reduceSub, List.replicate_succ, List.replicate_zero, List.cons_append, List.nil_append]; exact rfl) ?_
  repeat' (first
    | with_reducible refine QX.next ?_ | with_reducible refine WC.seq ?_ | with_reducible refine WC.region ?_ | with_reducible refine WC.block ?_ | with_reducible refine QX.bnorm ?_ | with_reducible refine QX.bret ?_ | with_reducible refine QX.ret ?_ | with_reducible refine QX.exit ?_ | with_reducible refine QX.bsame ?_ | with_reducible refine QX.bother rfl ?_
    | with_reducible refine WO.nil ?_ | with_reducible refine WC.skip ?_ | with_reducible refine WC.ret ?_ | with_reducible refine WC.exit ?_ | ((with_reducible refine WC.id ?_); first | refine WC.condT rfl ?_ | refine WC.condF rfl ?_)
    | (refine WC.quietG hg ?_; clear hg) | ((with_reducible refine WQ.nilG ?_); intro w hg)
    | ((with_reducible refine WQ.cid ?_); first | refine WQ.xG ?_ | refine WQ.pure ?_)
    | ((with_reducible refine WQ.gid ?_); first | refine WQ.on rfl ?_ | refine WQ.offN rfl rfl ?_)
    | ((with_reducible refine WO.cid ?_); first
      | refine WO.x ?_ | (refine op_alloc hg ?_; clear hg; intro b w hg; refine WO.fr ?_) | (refine op_boxA hg ?_; clear hg; intro b w hg; refine WO.fr ?_) | (refine op_box1 hg ?_; clear hg; intro b w hg; refine WO.fr ?_)
      | (refine op_store hg ?_; clear hg; intro w hg; refine WO.fr ?_; try simp only [List.set_cons_succ, List.set_cons_zero] at hg)
      | (refine op_storeA hg ?_; clear hg; intro w hg; refine WO.fr ?_; try simp only [over, List.take_zero, List.take_succ_cons, List.drop_zero, List.drop_succ_cons, List.nil_append, List.cons_append, List.append_nil, List.length_cons, List.length_nil, Nat.zero_add, Nat.reduceAdd, splice, cellsL] at hg)
      | (refine op_pure hg ?_; clear hg; intro w hg; refine WO.fr ?_) | (refine op_pureB hg ?_; clear hg; intro w hg c hc; cases c <;> refine WO.fr ?_))
    | ((with_reducible refine WO.gid ?_); first | refine WO.on rfl ?_ | refine WO.offN rfl rfl ?_))
  exact ret (.cells rfl (by first | with_reducible assumption | ((with_reducible apply Cells.ldn); (first | with_reducible assumption | ((with_reducible apply hg.cells0); with_reducible assumption) | with_reducible exact r1 hg | with_reducible exact r2 hg | with_reducible exact r3 hg | with_reducible exact t1 hs | with_reducible exact t2 hs | with_reducible exact t3 hs); exact rfl) | ((with_reducible apply CellsAt.ldn (hg := hg)); (repeat (first | ((with_reducible apply CellsAt.whole); exact rfl) | ((with_reducible apply CellsAt.here) <;> first | with_reducible assumption | (simp only [List.drop_zero, List.drop_succ_cons, List.take_succ_cons, List.take_zero]; exact rfl) | exact rfl) | with_reducible apply CellsAt.more | with_reducible apply CellsAt.next)); done)) (.tmp rfl .nil)) ⟨rfl, hg.drop⟩
theorem CPut_no {p : Option Addr} {w0 : World} (a md : Int) (t : Tok) (hm : ∀ w, Goes w0 [] [] w → Calls Try.prog 43 #[.pointer p] w fun e w' => e = .returned (.bool false) ∧ Goes w [] [] w') :
    Calls Try.prog 12 #[.pointer p, .agg [.int .i64 a, .int .i64 md].toArray, .agg t.enc.toArray] w0 fun e w' => e = .returned (.bool false) ∧ Goes w0 [] [] w' := by
  have hg := Goes.refl w0
  have p1 : ∀ {w Fs}, Goes w0 [] Fs w → Calls Try.prog 43 #[.pointer p] w _ := fun g => hm _ g.drop
  simp only [Tok.enc]
  refine enter Try.func12 rfl (by simp only [Try.ntmps12, List.length_cons, List.length_nil, Nat.reduceAdd, Nat.reduceSub, List.replicate_succ, List.replicate_zero, List.cons_append, List.nil_append]; exact rfl) ?_
  repeat' (first
    | with_reducible refine QX.next ?_ | with_reducible refine WC.seq ?_ | with_reducible refine WC.region ?_ | with_reducible refine WC.block ?_ | with_reducible refine QX.bnorm ?_ | with_reducible refine QX.bret ?_ | with_reducible refine QX.ret ?_ | with_reducible refine QX.exit ?_ | with_reducible refine QX.bsame ?_ | with_reducible refine QX.bother rfl ?_
    | with_reducible refine WO.nil ?_ | with_reducible refine WC.skip ?_ | with_reducible refine WC.ret ?_ | with_reducible refine WC.exit ?_ | ((with_reducible refine WC.id ?_); first | refine WC.condT rfl ?_ | refine WC.condF rfl ?_)
    | (refine WC.quietG hg ?_; clear hg) | ((with_reducible refine WQ.nilG ?_); intro w hg)
    | ((with_reducible refine WQ.cid ?_); first | refine WQ.xG ?_ | refine WQ.pure ?_)
    | ((with_reducible refine WQ.gid ?_); first | refine WQ.on rfl ?_ | refine WQ.offN rfl rfl ?_)
    | ((with_reducible refine WO.cid ?_); first
      | refine WO.x ?_ | (refine op_alloc hg ?_; clear hg; intro b w hg; refine WO.fr ?_) | (refine op_boxA hg ?_; clear hg; intro b w hg; refine WO.fr ?_) | (refine op_box1 hg ?_; clear hg; intro b w hg; refine WO.fr ?_)
      | (refine op_store hg ?_; clear hg; intro w hg; refine WO.fr ?_; try simp only [List.set_cons_succ, List.set_cons_zero] at hg)
      | (refine op_storeA hg ?_; clear hg; intro w hg; refine WO.fr ?_; try simp only [over, List.take_zero, List.take_succ_cons, List.drop_zero, List.drop_succ_cons, List.nil_append, List.cons_append, List.append_nil, List.length_cons, List.length_nil, Nat.zero_add, Nat.reduceAdd, splice, cellsL] at hg)
      | (refine op_pure hg ?_; clear hg; intro w hg; refine WO.fr ?_) | (refine op_pureB hg ?_; clear hg; intro w hg c hc; cases c <;> refine WO.fr ?_))
    | ((with_reducible refine WO.gid ?_); first | refine WO.on rfl ?_ | refine WO.offN rfl rfl ?_))
  exact ret1 rfl ⟨rfl, hg.drop⟩

set_option maxHeartbeats 4000000 in
theorem CPut_spec {pc : Nat} {room : Int} {m : List (Int × Ent)} {h : List Int} {f : Frag} {w0 : World} {ws : List CE} (a md : Int) (t : Tok) (hO : Owns w0 f) (hF : CacheF pc room m h f) (hR : CRel ws (mget m) h) (hn : ws.length ≤ 800000) :
    Calls Try.prog 12 #[.pointer (some ⟨pc, 0, none⟩), .agg [.int .i64 a, .int .i64 md].toArray, .agg t.enc.toArray] w0 fun e w' => ∃ m' h' f', e = .returned (.bool (rput ws ⟨a, md, t⟩ room).2) ∧ CacheF pc room m' h' f' ∧ CRel (rput ws ⟨a, md, t⟩ room).1 (mget m') h' ∧ Goes w0 (keys f) [f'] w' := by
  obtain ⟨ph, bm, clock, es, fh, rfl, hH, hm⟩ := hF
  have hml := hR.mlen hm.nodup
  have hhl := hR.len
  have hg := hO.goes.three
  have hK : CacheF pc room m h ([(pc, .cells [.int .i64 room, .map (some bm), .pointer (some ⟨ph, 0, none⟩)].toArray 54 (0, 0))] ++ (fh ++ [(bm, .map es clock)])) := ⟨ph, bm, clock, es, fh, rfl, hH, hm⟩
  have p1 : ∀ {w x y}, Goes w0 (keys ([(pc, .cells [.int .i64 room, .map (some bm), .pointer (some ⟨ph, 0, none⟩)].toArray 54 (0, 0))] ++ (fh ++ [(bm, .map es clock)]))) [x, y, [(pc, .cells [.int .i64 room, .map (some bm), .pointer (some ⟨ph, 0, none⟩)].toArray 54 (0, 0))], fh, [(bm, .map es clock)]] w → Calls Try.prog 43 #[.pointer (some ⟨pc, 0, none⟩)] w _ := fun g => cmade_spec (heap_cell (g.own (pc, .cells [.int .i64 room, .map (some bm), .pointer (some ⟨ph, 0, none⟩)].toArray 54 (0, 0)) (by simp)) rfl)
  simp only [Tok.enc]
  refine enter Try.func12 rfl (by simp only [Try.ntmps12, List.length_cons, List.length_nil, Nat.reduceAdd, Nat.reduceSub, List.replicate_succ, List.replicate_zero, List.cons_append, List.nil_append]; exact rfl) ?_
  repeat' (first
    | with_reducible refine QX.next ?_ | with_reducible refine WC.seq ?_ | with_reducible refine WC.region ?_ | with_reducible refine WC.block ?_ | with_reducible refine QX.bnorm ?_ | with_reducible refine QX.bret ?_ | with_reducible refine QX.ret ?_ | with_reducible refine QX.exit ?_ | with_reducible refine QX.bsame ?_ | with_reducible refine QX.bother rfl ?_
    | with_reducible refine WO.nil ?_ | with_reducible refine WC.skip ?_ | with_reducible refine WC.ret ?_ | with_reducible refine WC.exit ?_ | ((with_reducible refine WC.id ?_); first | refine WC.condT rfl ?_ | refine WC.condF rfl ?_)
    | (refine WC.quietG hg ?_; clear hg) | ((with_reducible refine WQ.nilG ?_); intro w hg)
    | ((with_reducible refine WQ.cid ?_); first | refine WQ.xG ?_ | refine WQ.pure ?_)
    | ((with_reducible refine WQ.gid ?_); first | refine WQ.on rfl ?_ | refine WQ.offN rfl rfl ?_)
    | ((with_reducible refine WO.cid ?_); first
      | refine WO.x ?_ | (refine op_alloc hg ?_; clear hg; intro b w hg; refine WO.fr ?_) | (refine op_boxA hg ?_; clear hg; intro b w hg; refine WO.fr ?_) | (refine op_box1 hg ?_; clear hg; intro b w hg; refine WO.fr ?_)
      | (refine op_store hg ?_; clear hg; intro w hg; refine WO.fr ?_; try simp only [List.set_cons_succ, List.set_cons_zero] at hg)
      | (refine op_storeA hg ?_; clear hg; intro w hg; refine WO.fr ?_; try simp only [over, List.take_zero, List.take_succ_cons, List.drop_zero, List.drop_succ_cons, List.nil_append, List.cons_append, List.append_nil, List.length_cons, List.length_nil, Nat.zero_add, Nat.reduceAdd, splice, cellsL] at hg)
      | (refine op_pure hg ?_; clear hg; intro w hg; refine WO.fr ?_) | (refine op_pureB hg ?_; clear hg; intro w hg c hc; cases c <;> refine WO.fr ?_))
    | ((with_reducible refine WO.gid ?_); first | refine WO.on rfl ?_ | refine WO.offN rfl rfl ?_))
  rename_i bs _ _
  have s1 : ∀ {w : World}, (w.heap[pc]? = some (.cells [.int .i64 room, .map (some bm), .pointer (some ⟨ph, 0, none⟩)].toArray 54 (0, 0)) ∧ w.heap[bm]? = some (.map es clock) ∧ w.heap[bs]? = some (.cells [.int .i64 a, .int .i64 md].toArray 27 (0, 0))) → w.cell? ⟨pc, 1, none⟩ = some (.map (some bm)) := fun h => heap_cell h.1 rfl
  have s2 : ∀ {w : World}, (w.heap[pc]? = some (.cells [.int .i64 room, .map (some bm), .pointer (some ⟨ph, 0, none⟩)].toArray 54 (0, 0)) ∧ w.heap[bm]? = some (.map es clock) ∧ w.heap[bs]? = some (.cells [.int .i64 a, .int .i64 md].toArray 27 (0, 0))) → w.cell? ⟨bs, 0, none⟩ = some (.int .i64 a) := fun h => heap_cell h.2.2 rfl
  cases hmg : mget m a with
  | some e =>
    have k1 : ∀ {w : World} {l : List Value} {ty : TypeId} {x y : Operand}, (w.heap[pc]? = some (.cells [.int .i64 room, .map (some bm), .pointer (some ⟨ph, 0, none⟩)].toArray 54 (0, 0)) ∧ w.heap[bm]? = some (.map es clock) ∧ w.heap[bs]? = some (.cells [.int .i64 a, .int .i64 md].toArray 27 (0, 0))) → ev l x = .map (some bm) → ev l y = .int .i64 a → Runs Try.prog l (.lookup 51 x y true) ty w _ := fun h hx hy => look_some h.2.1 hm hmg hx hy
    refine WC.drawn (fun w => w.heap[pc]? = some (.cells [.int .i64 room, .map (some bm), .pointer (some ⟨ph, 0, none⟩)].toArray 54 (0, 0)) ∧ w.heap[bm]? = some (.map es clock) ∧ w.heap[bs]? = some (.cells [.int .i64 a, .int .i64 md].toArray 27 (0, 0))) [8, 9, 11, 12] hg ?_
    clear hg
    intro w hg
    have hS : (fun w => w.heap[pc]? = some (.cells [.int .i64 room, .map (some bm), .pointer (some ⟨ph, 0, none⟩)].toArray 54 (0, 0)) ∧ w.heap[bm]? = some (.map es clock) ∧ w.heap[bs]? = some (.cells [.int .i64 a, .int .i64 md].toArray 27 (0, 0))) w := ⟨hg.own (pc, .cells [.int .i64 room, .map (some bm), .pointer (some ⟨ph, 0, none⟩)].toArray 54 (0, 0)) (by simp), hg.own (bm, .map es clock) (by simp), hg.own (bs, .cells [.int .i64 a, .int .i64 md].toArray 27 (0, 0)) (by simp)⟩
    refine WA.passM 0 hS ?_
    refine WA.passM 1 hS ?_
    refine WA.passM 2 hS ?_
    refine WA.passM 4 hS ?_
    refine WA.passM 3 hS ?_
    refine WA.passM 5 hS ?_
    refine WA.passM 6 hS ?_
    refine WA.passM 7 hS ?_
    refine WA.passL 8 ?_
    refine WA.passL 9 ?_
    refine WA.only 10 ?_
    refine op_alloc hg ?_
    clear hg hS
    intro be w hg
    refine WO.fr ?_
    have hS : (fun w => w.heap[pc]? = some (.cells [.int .i64 room, .map (some bm), .pointer (some ⟨ph, 0, none⟩)].toArray 54 (0, 0)) ∧ w.heap[bm]? = some (.map es clock) ∧ w.heap[bs]? = some (.cells [.int .i64 a, .int .i64 md].toArray 27 (0, 0))) w := ⟨hg.own (pc, .cells [.int .i64 room, .map (some bm), .pointer (some ⟨ph, 0, none⟩)].toArray 54 (0, 0)) (by simp), hg.own (bm, .map es clock) (by simp), hg.own (bs, .cells [.int .i64 a, .int .i64 md].toArray 27 (0, 0)) (by simp)⟩
    refine WO.nilA hS ?_
    refine WA.only 11 ?_
    refine op_storeA hg ?_
    clear hg hS
    intro w hg
    simp only [over, List.take_zero, List.take_succ_cons, List.drop_zero, List.drop_succ_cons, List.nil_append, List.cons_append, List.append_nil, List.length_cons, List.length_nil, Nat.zero_add, Nat.reduceAdd] at hg
    refine WO.fr ?_
    refine WO.nilL ?_
    refine WA.passL 12 ?_
    refine WA.nil ?_
    clear s1 s2 k1
    repeat' (first
      | with_reducible refine QX.next ?_ | with_reducible refine WC.seq ?_ | with_reducible refine WC.region ?_ | with_reducible refine WC.block ?_ | with_reducible refine QX.bnorm ?_ | with_reducible refine QX.bret ?_ | with_reducible refine QX.ret ?_ | with_reducible refine QX.exit ?_ | with_reducible refine QX.bsame ?_ | with_reducible refine QX.bother rfl ?_
      | with_reducible refine WO.nil ?_ | with_reducible refine WC.skip ?_ | with_reducible refine WC.ret ?_ | with_reducible refine WC.exit ?_ | ((with_reducible refine WC.id ?_); first | refine WC.condT rfl ?_ | refine WC.condF rfl ?_)
      | ((with_reducible refine WQ.cid ?_); first | refine WQ.xG ?_ | refine WQ.pure ?_)
      | ((with_reducible refine WQ.gid ?_); first | refine WQ.on rfl ?_ | refine WQ.offN rfl rfl ?_)
      | ((with_reducible refine WO.cid ?_); first
        | refine WO.x ?_ | (refine op_alloc hg ?_; clear hg; intro b w hg; refine WO.fr ?_) | (refine op_boxA hg ?_; clear hg; intro b w hg; refine WO.fr ?_) | (refine op_box1 hg ?_; clear hg; intro b w hg; refine WO.fr ?_)
        | (refine op_store hg ?_; clear hg; intro w hg; refine WO.fr ?_; try simp only [List.set_cons_succ, List.set_cons_zero] at hg)
        | (refine op_storeA hg ?_; clear hg; intro w hg; refine WO.fr ?_; try simp only [over, List.take_zero, List.take_succ_cons, List.drop_zero, List.drop_succ_cons, List.nil_append, List.cons_append, List.append_nil, List.length_cons, List.length_nil, Nat.zero_add, Nat.reduceAdd, splice, cellsL] at hg)
        | (refine op_pure hg ?_; clear hg; intro w hg; refine WO.fr ?_) | (refine op_pureB hg ?_; clear hg; intro w hg c hc; cases c <;> refine WO.fr ?_))
      | ((with_reducible refine WO.gid ?_); first | refine WO.on rfl ?_ | refine WO.offN rfl rfl ?_))
    have s3 : ∀ {w : World}, (w.heap[pc]? = some (.cells [.int .i64 room, .map (some bm), .pointer (some ⟨ph, 0, none⟩)].toArray 54 (0, 0)) ∧ w.heap[bs]? = some (.cells [.int .i64 a, .int .i64 md].toArray 27 (0, 0)) ∧ w.heap[b]? = some (.cells [.int .i64 t.kind, .int .i64 t.rule, .int .i64 t.fr, .int .i64 t.at', .int .i64 t.to, .int .i64 t.mode].toArray 29 (0, 0))) → w.cell? ⟨pc, 1, none⟩ = some (.map (some bm)) := fun h => heap_cell h.1 rfl
    have s4 : ∀ {w : World}, (w.heap[pc]? = some (.cells [.int .i64 room, .map (some bm), .pointer (some ⟨ph, 0, none⟩)].toArray 54 (0, 0)) ∧ w.heap[bs]? = some (.cells [.int .i64 a, .int .i64 md].toArray 27 (0, 0)) ∧ w.heap[b]? = some (.cells [.int .i64 t.kind, .int .i64 t.rule, .int .i64 t.fr, .int .i64 t.at', .int .i64 t.to, .int .i64 t.mode].toArray 29 (0, 0))) → w.cell? ⟨bs, 0, none⟩ = some (.int .i64 a) := fun h => heap_cell h.2.1 rfl
    have s5 : ∀ {w : World}, (w.heap[pc]? = some (.cells [.int .i64 room, .map (some bm), .pointer (some ⟨ph, 0, none⟩)].toArray 54 (0, 0)) ∧ w.heap[bs]? = some (.cells [.int .i64 a, .int .i64 md].toArray 27 (0, 0)) ∧ w.heap[b]? = some (.cells [.int .i64 t.kind, .int .i64 t.rule, .int .i64 t.fr, .int .i64 t.at', .int .i64 t.to, .int .i64 t.mode].toArray 29 (0, 0))) → w.cell? ⟨bs, 1, none⟩ = some (.int .i64 md) := fun h => heap_cell h.2.1 rfl
    have t1 : ∀ {w : World}, (w.heap[pc]? = some (.cells [.int .i64 room, .map (some bm), .pointer (some ⟨ph, 0, none⟩)].toArray 54 (0, 0)) ∧ w.heap[bs]? = some (.cells [.int .i64 a, .int .i64 md].toArray 27 (0, 0)) ∧ w.heap[b]? = some (.cells [.int .i64 t.kind, .int .i64 t.rule, .int .i64 t.fr, .int .i64 t.at', .int .i64 t.to, .int .i64 t.mode].toArray 29 (0, 0))) → Cells w ⟨b, 0, none⟩ [.int .i64 t.kind, .int .i64 t.rule, .int .i64 t.fr, .int .i64 t.at', .int .i64 t.to, .int .i64 t.mode] := fun h => heap_cells h.2.2 rfl
    refine WC.drawn (fun w => w.heap[pc]? = some (.cells [.int .i64 room, .map (some bm), .pointer (some ⟨ph, 0, none⟩)].toArray 54 (0, 0)) ∧ w.heap[bs]? = some (.cells [.int .i64 a, .int .i64 md].toArray 27 (0, 0)) ∧ w.heap[b]? = some (.cells [.int .i64 t.kind, .int .i64 t.rule, .int .i64 t.fr, .int .i64 t.at', .int .i64 t.to, .int .i64 t.mode].toArray 29 (0, 0))) [10] hg ?_
    clear hg
    intro w hg
    have hS : (fun w => w.heap[pc]? = some (.cells [.int .i64 room, .map (some bm), .pointer (some ⟨ph, 0, none⟩)].toArray 54 (0, 0)) ∧ w.heap[bs]? = some (.cells [.int .i64 a, .int .i64 md].toArray 27 (0, 0)) ∧ w.heap[b]? = some (.cells [.int .i64 t.kind, .int .i64 t.rule, .int .i64 t.fr, .int .i64 t.at', .int .i64 t.to, .int .i64 t.mode].toArray 29 (0, 0))) w := ⟨hg.own (pc, .cells [.int .i64 room, .map (some bm), .pointer (some ⟨ph, 0, none⟩)].toArray 54 (0, 0)) (by simp), hg.own (bs, .cells [.int .i64 a, .int .i64 md].toArray 27 (0, 0)) (by simp), hg.own (b, .cells [.int .i64 t.kind, .int .i64 t.rule, .int .i64 t.fr, .int .i64 t.at', .int .i64 t.to, .int .i64 t.mode].toArray 29 (0, 0)) (by simp)⟩
    refine WA.passM 0 hS ?_
    refine WA.passM 1 hS ?_
    refine WA.passM 2 hS ?_
    refine WA.passM 4 hS ?_
    refine WA.passM 6 hS ?_
    refine WA.passM 3 hS ?_
    refine WA.passM 5 hS ?_
    refine WA.passM 7 hS ?_
    refine WA.passM 8 hS ?_
    refine WA.passM 9 hS ?_
    refine WA.only 10 ?_
    refine op_mapUpdate (u := (⟨md, t⟩ : Ent)) (hg.front 5) hm ?_
    clear hg hS
    intro es' clock' w hm' hg
    refine WO.fr ?_
    refine WO.nilL ?_
    refine WA.nil ?_
    clear s3 s4 s5 t1
    repeat' (first
      | with_reducible refine QX.next ?_ | with_reducible refine WC.seq ?_ | with_reducible refine WC.region ?_ | with_reducible refine WC.block ?_ | with_reducible refine QX.bnorm ?_ | with_reducible refine QX.bret ?_ | with_reducible refine QX.ret ?_ | with_reducible refine QX.exit ?_ | with_reducible refine QX.bsame ?_ | with_reducible refine QX.bother rfl ?_
      | with_reducible refine WO.nil ?_ | with_reducible refine WC.skip ?_ | with_reducible refine WC.ret ?_ | with_reducible refine WC.exit ?_ | ((with_reducible refine WC.id ?_); first | refine WC.condT rfl ?_ | refine WC.condF rfl ?_)
      | ((with_reducible refine WQ.cid ?_); first | refine WQ.xG ?_ | refine WQ.pure ?_)
      | ((with_reducible refine WQ.gid ?_); first | refine WQ.on rfl ?_ | refine WQ.offN rfl rfl ?_)
      | ((with_reducible refine WO.cid ?_); first
        | refine WO.x ?_ | (refine op_alloc hg ?_; clear hg; intro b w hg; refine WO.fr ?_) | (refine op_boxA hg ?_; clear hg; intro b w hg; refine WO.fr ?_) | (refine op_box1 hg ?_; clear hg; intro b w hg; refine WO.fr ?_)
        | (refine op_store hg ?_; clear hg; intro w hg; refine WO.fr ?_; try simp only [List.set_cons_succ, List.set_cons_zero] at hg)
        | (refine op_storeA hg ?_; clear hg; intro w hg; refine WO.fr ?_; try simp only [over, List.take_zero, List.take_succ_cons, List.drop_zero, List.drop_succ_cons, List.nil_append, List.cons_append, List.append_nil, List.length_cons, List.length_nil, Nat.zero_add, Nat.reduceAdd, splice, cellsL] at hg)
        | (refine op_pure hg ?_; clear hg; intro w hg; refine WO.fr ?_) | (refine op_pureB hg ?_; clear hg; intro w hg c hc; cases c <;> refine WO.fr ?_))
      | ((with_reducible refine WO.gid ?_); first | refine WO.on rfl ?_ | refine WO.offN rfl rfl ?_))
    have hin : a ∈ plc ws := (hR.has a).1 (by rw [hmg]; rfl)
    have hah := (at_ahead (a := a) hR.sorted).2 hin
    have hrp : rput ws ⟨a, md, t⟩ room = (ws.take (ahead ws a) ++ ⟨a, md, t⟩ :: ws.drop (ahead ws a + 1), true) := by
      unfold rput
      simp only [hah, if_true]
    rw [hrp]
    refine ret1 rfl ⟨mset m a ⟨md, t⟩, h, _, rfl, ⟨ph, bm, clock', es', fh, rfl, hH, hm'⟩, ?_, ((((((hg.front 3).front 3).front 3).front 3).front 5).front 5).unthree.sub (by simp)⟩
    have := hR.replace ⟨a, md, t⟩ hah
    have e2 : (fun p => if a = p then some (⟨md, t⟩ : Ent) else mget m p) = mget (mset m a ⟨md, t⟩) := funext fun p => (mget_mset m a ⟨md, t⟩ p).symm
    rw [← e2]
    exact this
  | none =>
    have k1 : ∀ {w : World} {l : List Value} {ty : TypeId} {x y : Operand}, (w.heap[pc]? = some (.cells [.int .i64 room, .map (some bm), .pointer (some ⟨ph, 0, none⟩)].toArray 54 (0, 0)) ∧ w.heap[bm]? = some (.map es clock) ∧ w.heap[bs]? = some (.cells [.int .i64 a, .int .i64 md].toArray 27 (0, 0))) → ev l x = .map (some bm) → ev l y = .int .i64 a → Runs Try.prog l (.lookup 51 x y true) ty w _ := fun h hx hy => look_none h.2.1 hm hmg hx hy
    refine WC.drawn (fun w => w.heap[pc]? = some (.cells [.int .i64 room, .map (some bm), .pointer (some ⟨ph, 0, none⟩)].toArray 54 (0, 0)) ∧ w.heap[bm]? = some (.map es clock) ∧ w.heap[bs]? = some (.cells [.int .i64 a, .int .i64 md].toArray 27 (0, 0))) [8, 9, 11, 12] hg ?_
    clear hg
    intro w hg
    have hS : (fun w => w.heap[pc]? = some (.cells [.int .i64 room, .map (some bm), .pointer (some ⟨ph, 0, none⟩)].toArray 54 (0, 0)) ∧ w.heap[bm]? = some (.map es clock) ∧ w.heap[bs]? = some (.cells [.int .i64 a, .int .i64 md].toArray 27 (0, 0))) w := ⟨hg.own (pc, .cells [.int .i64 room, .map (some bm), .pointer (some ⟨ph, 0, none⟩)].toArray 54 (0, 0)) (by simp), hg.own (bm, .map es clock) (by simp), hg.own (bs, .cells [.int .i64 a, .int .i64 md].toArray 27 (0, 0)) (by simp)⟩
    refine WA.passM 0 hS ?_
    refine WA.passM 1 hS ?_
    refine WA.passM 2 hS ?_
    refine WA.passM 4 hS ?_
    refine WA.passM 3 hS ?_
    refine WA.passM 5 hS ?_
    refine WA.passM 6 hS ?_
    refine WA.passM 7 hS ?_
    refine WA.passL 8 ?_
    refine WA.passL 9 ?_
    refine WA.only 10 ?_
    refine op_alloc hg ?_
    clear hg hS
    intro be w hg
    refine WO.fr ?_
    have hS : (fun w => w.heap[pc]? = some (.cells [.int .i64 room, .map (some bm), .pointer (some ⟨ph, 0, none⟩)].toArray 54 (0, 0)) ∧ w.heap[bm]? = some (.map es clock) ∧ w.heap[bs]? = some (.cells [.int .i64 a, .int .i64 md].toArray 27 (0, 0))) w := ⟨hg.own (pc, .cells [.int .i64 room, .map (some bm), .pointer (some ⟨ph, 0, none⟩)].toArray 54 (0, 0)) (by simp), hg.own (bm, .map es clock) (by simp), hg.own (bs, .cells [.int .i64 a, .int .i64 md].toArray 27 (0, 0)) (by simp)⟩
    refine WO.nilA hS ?_
    refine WA.only 11 ?_
    refine op_storeA hg ?_
    clear hg hS
    intro w hg
    simp only [over, List.take_zero, List.take_succ_cons, List.drop_zero, List.drop_succ_cons, List.nil_append, List.cons_append, List.append_nil, List.length_cons, List.length_nil, Nat.zero_add, Nat.reduceAdd] at hg
    refine WO.fr ?_
    refine WO.nilL ?_
    refine WA.passL 12 ?_
    refine WA.nil ?_
    clear s1 s2 k1
    repeat' (first
      | with_reducible refine QX.next ?_ | with_reducible refine WC.seq ?_ | with_reducible refine WC.region ?_ | with_reducible refine WC.block ?_ | with_reducible refine QX.bnorm ?_ | with_reducible refine QX.bret ?_ | with_reducible refine QX.ret ?_ | with_reducible refine QX.exit ?_ | with_reducible refine QX.bsame ?_ | with_reducible refine QX.bother rfl ?_
      | with_reducible refine WO.nil ?_ | with_reducible refine WC.skip ?_ | with_reducible refine WC.ret ?_ | with_reducible refine WC.exit ?_ | ((with_reducible refine WC.id ?_); first | refine WC.condT rfl ?_ | refine WC.condF rfl ?_)
      | ((with_reducible refine WQ.cid ?_); first | refine WQ.xG ?_ | refine WQ.pure ?_)
      | ((with_reducible refine WQ.gid ?_); first | refine WQ.on rfl ?_ | refine WQ.offN rfl rfl ?_)
      | ((with_reducible refine WO.cid ?_); first
        | refine WO.x ?_ | (refine op_alloc hg ?_; clear hg; intro b w hg; refine WO.fr ?_) | (refine op_boxA hg ?_; clear hg; intro b w hg; refine WO.fr ?_) | (refine op_box1 hg ?_; clear hg; intro b w hg; refine WO.fr ?_)
        | (refine op_store hg ?_; clear hg; intro w hg; refine WO.fr ?_; try simp only [List.set_cons_succ, List.set_cons_zero] at hg)
        | (refine op_storeA hg ?_; clear hg; intro w hg; refine WO.fr ?_; try simp only [over, List.take_zero, List.take_succ_cons, List.drop_zero, List.drop_succ_cons, List.nil_append, List.cons_append, List.append_nil, List.length_cons, List.length_nil, Nat.zero_add, Nat.reduceAdd, splice, cellsL] at hg)
        | (refine op_pure hg ?_; clear hg; intro w hg; refine WO.fr ?_) | (refine op_pureB hg ?_; clear hg; intro w hg c hc; cases c <;> refine WO.fr ?_))
      | ((with_reducible refine WO.gid ?_); first | refine WO.on rfl ?_ | refine WO.offN rfl rfl ?_))
    have s1 : ∀ {w : World}, (w.heap[pc]? = some (.cells [.int .i64 room, .map (some bm), .pointer (some ⟨ph, 0, none⟩)].toArray 54 (0, 0)) ∧ w.heap[bm]? = some (.map es clock)) → w.cell? ⟨pc, 1, none⟩ = some (.map (some bm)) := fun h => heap_cell h.1 rfl
    have s2 : ∀ {w : World}, (w.heap[pc]? = some (.cells [.int .i64 room, .map (some bm), .pointer (some ⟨ph, 0, none⟩)].toArray 54 (0, 0)) ∧ w.heap[bm]? = some (.map es clock)) → w.cell? ⟨pc, 0, none⟩ = some (.int .i64 room) := fun h => heap_cell h.1 rfl
    have k2 : ∀ {w : World} {l : List Value} {T : TypeId} {x : Operand}, (w.heap[pc]? = some (.cells [.int .i64 room, .map (some bm), .pointer (some ⟨ph, 0, none⟩)].toArray 54 (0, 0)) ∧ w.heap[bm]? = some (.map es clock)) → ev l x = .map (some bm) → Runs Try.prog l (.call { callee := .builtin .len, args := #[x], argTypes := #[51] }) T w (.int .i64 m.length) := fun h hx => hm.size ▸ x_lenMap h.2 hx
    have hnin : a ∉ plc ws := fun hin => by
      have := (hR.has a).2 hin
      rw [hmg] at this
      cases this
    have hah : ¬ ((ws[ahead ws a]?).map (·.at') = some a) := fun h => hnin ((at_ahead hR.sorted).1 h)
    by_cases hfull : room ≤ m.length
    · skip
      refine WC.drawn (fun w => w.heap[pc]? = some (.cells [.int .i64 room, .map (some bm), .pointer (some ⟨ph, 0, none⟩)].toArray 54 (0, 0)) ∧ w.heap[bm]? = some (.map es clock)) [] hg ?_
      clear hg
      intro w hg
      have hS : (fun w => w.heap[pc]? = some (.cells [.int .i64 room, .map (some bm), .pointer (some ⟨ph, 0, none⟩)].toArray 54 (0, 0)) ∧ w.heap[bm]? = some (.map es clock)) w := ⟨hg.own (pc, .cells [.int .i64 room, .map (some bm), .pointer (some ⟨ph, 0, none⟩)].toArray 54 (0, 0)) (by simp), hg.own (bm, .map es clock) (by simp)⟩
      refine WA.passM 0 hS ?_
      refine WA.passM 1 hS ?_
      refine WA.passM 2 hS ?_
      refine WA.passM 5 hS ?_
      refine WA.passM 6 hS ?_
      refine WA.passM 7 hS ?_
      refine WA.passM 3 hS ?_
      refine WA.passM 4 hS ?_
      refine WA.passM 8 hS ?_
      refine WA.passM 9 hS ?_
      refine WA.nil ?_
      repeat' (first
        | with_reducible refine QX.next ?_ | with_reducible refine WC.seq ?_ | with_reducible refine WC.region ?_ | with_reducible refine WC.block ?_ | with_reducible refine QX.bnorm ?_ | with_reducible refine QX.bret ?_ | with_reducible refine QX.ret ?_ | with_reducible refine QX.exit ?_ | with_reducible refine QX.bsame ?_ | with_reducible refine QX.bother rfl ?_
        | with_reducible refine WO.nil ?_ | with_reducible refine WC.skip ?_ | with_reducible refine WC.ret ?_ | with_reducible refine WC.exit ?_ | ((with_reducible refine WC.id ?_); first | refine WC.condT rfl ?_ | refine WC.condF rfl ?_)
        | ((with_reducible refine WQ.cid ?_); first | refine WQ.xG ?_ | refine WQ.pure ?_)
        | ((with_reducible refine WQ.gid ?_); first | refine WQ.on rfl ?_ | refine WQ.offN rfl rfl ?_)
        | ((with_reducible refine WO.cid ?_); first
          | refine WO.x ?_ | (refine op_alloc hg ?_; clear hg; intro b w hg; refine WO.fr ?_) | (refine op_boxA hg ?_; clear hg; intro b w hg; refine WO.fr ?_) | (refine op_box1 hg ?_; clear hg; intro b w hg; refine WO.fr ?_)
          | (refine op_store hg ?_; clear hg; intro w hg; refine WO.fr ?_; try simp only [List.set_cons_succ, List.set_cons_zero] at hg)
          | (refine op_storeA hg ?_; clear hg; intro w hg; refine WO.fr ?_; try simp only [over, List.take_zero, List.take_succ_cons, List.drop_zero, List.drop_succ_cons, List.nil_append, List.cons_append, List.append_nil, List.length_cons, List.length_nil, Nat.zero_add, Nat.reduceAdd, splice, cellsL] at hg)
          | (refine op_pure hg ?_; clear hg; intro w hg; refine WO.fr ?_) | (refine op_pureB hg ?_; clear hg; intro w hg c hc; cases c <;> refine WO.fr ?_))
        | ((with_reducible refine WO.gid ?_); first | refine WO.on rfl ?_ | refine WO.offN rfl rfl ?_))
      have hrp : rput ws ⟨a, md, t⟩ room = (ws, false) := by
        unfold rput
        simp only [hah, if_false, if_pos (show room ≤ (ws.length : Int) from by omega)]
      rw [hrp]
      exact ret1 rfl ⟨m, h, _, rfl, hK, hR, ((((((hg.front 2).front 2).front 2).front 5).front 5).front 5).unthree.sub (by simp)⟩
    · skip
      refine WC.drawn (fun w => w.heap[pc]? = some (.cells [.int .i64 room, .map (some bm), .pointer (some ⟨ph, 0, none⟩)].toArray 54 (0, 0)) ∧ w.heap[bm]? = some (.map es clock)) [] hg ?_
      clear hg
      intro w hg
      have hS : (fun w => w.heap[pc]? = some (.cells [.int .i64 room, .map (some bm), .pointer (some ⟨ph, 0, none⟩)].toArray 54 (0, 0)) ∧ w.heap[bm]? = some (.map es clock)) w := ⟨hg.own (pc, .cells [.int .i64 room, .map (some bm), .pointer (some ⟨ph, 0, none⟩)].toArray 54 (0, 0)) (by simp), hg.own (bm, .map es clock) (by simp)⟩
      refine WA.passM 0 hS ?_
      refine WA.passM 1 hS ?_
      refine WA.passM 2 hS ?_
      refine WA.passM 5 hS ?_
      refine WA.passM 6 hS ?_
      refine WA.passM 7 hS ?_
      refine WA.passM 3 hS ?_
      refine WA.passM 4 hS ?_
      refine WA.passM 8 hS ?_
      refine WA.passM 9 hS ?_
      refine WA.nil ?_
      repeat' (first
        | with_reducible refine QX.next ?_ | with_reducible refine WC.seq ?_ | with_reducible refine WC.region ?_ | with_reducible refine WC.block ?_ | with_reducible refine QX.bnorm ?_ | with_reducible refine QX.bret ?_ | with_reducible refine QX.ret ?_ | with_reducible refine QX.exit ?_ | with_reducible refine QX.bsame ?_ | with_reducible refine QX.bother rfl ?_
        | with_reducible refine WO.nil ?_ | with_reducible refine WC.skip ?_ | with_reducible refine WC.ret ?_ | with_reducible refine WC.exit ?_ | ((with_reducible refine WC.id ?_); first | refine WC.condT rfl ?_ | refine WC.condF rfl ?_)
        | ((with_reducible refine WQ.cid ?_); first | refine WQ.xG ?_ | refine WQ.pure ?_)
        | ((with_reducible refine WQ.gid ?_); first | refine WQ.on rfl ?_ | refine WQ.offN rfl rfl ?_)
        | ((with_reducible refine WO.cid ?_); first
          | refine WO.x ?_ | (refine op_alloc hg ?_; clear hg; intro b w hg; refine WO.fr ?_) | (refine op_boxA hg ?_; clear hg; intro b w hg; refine WO.fr ?_) | (refine op_box1 hg ?_; clear hg; intro b w hg; refine WO.fr ?_)
          | (refine op_store hg ?_; clear hg; intro w hg; refine WO.fr ?_; try simp only [List.set_cons_succ, List.set_cons_zero] at hg)
          | (refine op_storeA hg ?_; clear hg; intro w hg; refine WO.fr ?_; try simp only [over, List.take_zero, List.take_succ_cons, List.drop_zero, List.drop_succ_cons, List.nil_append, List.cons_append, List.append_nil, List.length_cons, List.length_nil, Nat.zero_add, Nat.reduceAdd, splice, cellsL] at hg)
          | (refine op_pure hg ?_; clear hg; intro w hg; refine WO.fr ?_) | (refine op_pureB hg ?_; clear hg; intro w hg c hc; cases c <;> refine WO.fr ?_))
        | ((with_reducible refine WO.gid ?_); first | refine WO.on rfl ?_ | refine WO.offN rfl rfl ?_))
      clear s1 s2 k2
      have s1 : ∀ {w : World}, (w.heap[pc]? = some (.cells [.int .i64 room, .map (some bm), .pointer (some ⟨ph, 0, none⟩)].toArray 54 (0, 0)) ∧ w.heap[bs]? = some (.cells [.int .i64 a, .int .i64 md].toArray 27 (0, 0))) → w.cell? ⟨pc, 2, none⟩ = some (.pointer (some ⟨ph, 0, none⟩)) := fun h => heap_cell h.1 rfl
      have s2 : ∀ {w : World}, (w.heap[pc]? = some (.cells [.int .i64 room, .map (some bm), .pointer (some ⟨ph, 0, none⟩)].toArray 54 (0, 0)) ∧ w.heap[bs]? = some (.cells [.int .i64 a, .int .i64 md].toArray 27 (0, 0))) → w.cell? ⟨bs, 0, none⟩ = some (.int .i64 a) := fun h => heap_cell h.2 rfl
      refine WC.drawn (fun w => w.heap[pc]? = some (.cells [.int .i64 room, .map (some bm), .pointer (some ⟨ph, 0, none⟩)].toArray 54 (0, 0)) ∧ w.heap[bs]? = some (.cells [.int .i64 a, .int .i64 md].toArray 27 (0, 0))) [8] hg ?_
      clear hg
      intro w hg
      have hS : (fun w => w.heap[pc]? = some (.cells [.int .i64 room, .map (some bm), .pointer (some ⟨ph, 0, none⟩)].toArray 54 (0, 0)) ∧ w.heap[bs]? = some (.cells [.int .i64 a, .int .i64 md].toArray 27 (0, 0))) w := ⟨hg.own (pc, .cells [.int .i64 room, .map (some bm), .pointer (some ⟨ph, 0, none⟩)].toArray 54 (0, 0)) (by simp), hg.own (bs, .cells [.int .i64 a, .int .i64 md].toArray 27 (0, 0)) (by simp)⟩
      refine WA.passM 0 hS ?_
      refine WA.passM 1 hS ?_
      refine WA.passM 2 hS ?_
      refine WA.passM 5 hS ?_
      refine WA.passM 3 hS ?_
      refine WA.passM 4 hS ?_
      refine WA.passM 6 hS ?_
      refine WA.passM 7 hS ?_
      refine WA.only 8 ?_
      refine op_call (hPush_spec a (hg.front 4).owns1 hH hR.heap (by omega)) ?_
      rintro _ w2 ⟨h', fh', ⟨v, rfl⟩, hH', hp', hhp', hg2⟩
      replace hg := (hg.front 4).callF hg2
      clear hg2 hS s1 s2
      refine ⟨_, rfl, ?_⟩
      refine WO.fr ?_
      refine WO.nilL ?_
      refine WA.nil ?_
      repeat' (first
        | with_reducible refine QX.next ?_ | with_reducible refine WC.seq ?_ | with_reducible refine WC.region ?_ | with_reducible refine WC.block ?_ | with_reducible refine QX.bnorm ?_ | with_reducible refine QX.bret ?_ | with_reducible refine QX.ret ?_ | with_reducible refine QX.exit ?_ | with_reducible refine QX.bsame ?_ | with_reducible refine QX.bother rfl ?_
        | with_reducible refine WO.nil ?_ | with_reducible refine WC.skip ?_ | with_reducible refine WC.ret ?_ | with_reducible refine WC.exit ?_ | ((with_reducible refine WC.id ?_); first | refine WC.condT rfl ?_ | refine WC.condF rfl ?_)
        | ((with_reducible refine WQ.cid ?_); first | refine WQ.xG ?_ | refine WQ.pure ?_)
        | ((with_reducible refine WQ.gid ?_); first | refine WQ.on rfl ?_ | refine WQ.offN rfl rfl ?_)
        | ((with_reducible refine WO.cid ?_); first
          | refine WO.x ?_ | (refine op_alloc hg ?_; clear hg; intro b w hg; refine WO.fr ?_) | (refine op_boxA hg ?_; clear hg; intro b w hg; refine WO.fr ?_) | (refine op_box1 hg ?_; clear hg; intro b w hg; refine WO.fr ?_)
          | (refine op_store hg ?_; clear hg; intro w hg; refine WO.fr ?_; try simp only [List.set_cons_succ, List.set_cons_zero] at hg)
          | (refine op_storeA hg ?_; clear hg; intro w hg; refine WO.fr ?_; try simp only [over, List.take_zero, List.take_succ_cons, List.drop_zero, List.drop_succ_cons, List.nil_append, List.cons_append, List.append_nil, List.length_cons, List.length_nil, Nat.zero_add, Nat.reduceAdd, splice, cellsL] at hg)
          | (refine op_pure hg ?_; clear hg; intro w hg; refine WO.fr ?_) | (refine op_pureB hg ?_; clear hg; intro w hg c hc; cases c <;> refine WO.fr ?_))
        | ((with_reducible refine WO.gid ?_); first | refine WO.on rfl ?_ | refine WO.offN rfl rfl ?_))
      have s3 : ∀ {w : World}, (w.heap[pc]? = some (.cells [.int .i64 room, .map (some bm), .pointer (some ⟨ph, 0, none⟩)].toArray 54 (0, 0)) ∧ w.heap[bs]? = some (.cells [.int .i64 a, .int .i64 md].toArray 27 (0, 0)) ∧ w.heap[b]? = some (.cells [.int .i64 t.kind, .int .i64 t.rule, .int .i64 t.fr, .int .i64 t.at', .int .i64 t.to, .int .i64 t.mode].toArray 29 (0, 0))) → w.cell? ⟨pc, 1, none⟩ = some (.map (some bm)) := fun h => heap_cell h.1 rfl
      have s4 : ∀ {w : World}, (w.heap[pc]? = some (.cells [.int .i64 room, .map (some bm), .pointer (some ⟨ph, 0, none⟩)].toArray 54 (0, 0)) ∧ w.heap[bs]? = some (.cells [.int .i64 a, .int .i64 md].toArray 27 (0, 0)) ∧ w.heap[b]? = some (.cells [.int .i64 t.kind, .int .i64 t.rule, .int .i64 t.fr, .int .i64 t.at', .int .i64 t.to, .int .i64 t.mode].toArray 29 (0, 0))) → w.cell? ⟨bs, 0, none⟩ = some (.int .i64 a) := fun h => heap_cell h.2.1 rfl
      have s5 : ∀ {w : World}, (w.heap[pc]? = some (.cells [.int .i64 room, .map (some bm), .pointer (some ⟨ph, 0, none⟩)].toArray 54 (0, 0)) ∧ w.heap[bs]? = some (.cells [.int .i64 a, .int .i64 md].toArray 27 (0, 0)) ∧ w.heap[b]? = some (.cells [.int .i64 t.kind, .int .i64 t.rule, .int .i64 t.fr, .int .i64 t.at', .int .i64 t.to, .int .i64 t.mode].toArray 29 (0, 0))) → w.cell? ⟨bs, 1, none⟩ = some (.int .i64 md) := fun h => heap_cell h.2.1 rfl
      have t1 : ∀ {w : World}, (w.heap[pc]? = some (.cells [.int .i64 room, .map (some bm), .pointer (some ⟨ph, 0, none⟩)].toArray 54 (0, 0)) ∧ w.heap[bs]? = some (.cells [.int .i64 a, .int .i64 md].toArray 27 (0, 0)) ∧ w.heap[b]? = some (.cells [.int .i64 t.kind, .int .i64 t.rule, .int .i64 t.fr, .int .i64 t.at', .int .i64 t.to, .int .i64 t.mode].toArray 29 (0, 0))) → Cells w ⟨b, 0, none⟩ [.int .i64 t.kind, .int .i64 t.rule, .int .i64 t.fr, .int .i64 t.at', .int .i64 t.to, .int .i64 t.mode] := fun h => heap_cells h.2.2 rfl
      refine WC.drawn (fun w => w.heap[pc]? = some (.cells [.int .i64 room, .map (some bm), .pointer (some ⟨ph, 0, none⟩)].toArray 54 (0, 0)) ∧ w.heap[bs]? = some (.cells [.int .i64 a, .int .i64 md].toArray 27 (0, 0)) ∧ w.heap[b]? = some (.cells [.int .i64 t.kind, .int .i64 t.rule, .int .i64 t.fr, .int .i64 t.at', .int .i64 t.to, .int .i64 t.mode].toArray 29 (0, 0))) [10] hg ?_
      clear hg
      intro w hg
      have hS : (fun w => w.heap[pc]? = some (.cells [.int .i64 room, .map (some bm), .pointer (some ⟨ph, 0, none⟩)].toArray 54 (0, 0)) ∧ w.heap[bs]? = some (.cells [.int .i64 a, .int .i64 md].toArray 27 (0, 0)) ∧ w.heap[b]? = some (.cells [.int .i64 t.kind, .int .i64 t.rule, .int .i64 t.fr, .int .i64 t.at', .int .i64 t.to, .int .i64 t.mode].toArray 29 (0, 0))) w := ⟨hg.own (pc, .cells [.int .i64 room, .map (some bm), .pointer (some ⟨ph, 0, none⟩)].toArray 54 (0, 0)) (by simp), hg.own (bs, .cells [.int .i64 a, .int .i64 md].toArray 27 (0, 0)) (by simp), hg.own (b, .cells [.int .i64 t.kind, .int .i64 t.rule, .int .i64 t.fr, .int .i64 t.at', .int .i64 t.to, .int .i64 t.mode].toArray 29 (0, 0)) (by simp)⟩
      refine WA.passM 0 hS ?_
      refine WA.passM 1 hS ?_
      refine WA.passM 2 hS ?_
      refine WA.passM 4 hS ?_
      refine WA.passM 6 hS ?_
      refine WA.passM 3 hS ?_
      refine WA.passM 5 hS ?_
      refine WA.passM 7 hS ?_
      refine WA.passM 8 hS ?_
      refine WA.passM 9 hS ?_
      refine WA.only 10 ?_
      refine op_mapUpdate (u := (⟨md, t⟩ : Ent)) (hg.front 5) hm ?_
      clear hg hS
      intro es' clock' w hm' hg
      refine WO.fr ?_
      refine WO.nilL ?_
      refine WA.nil ?_
      clear s3 s4 s5 t1
      repeat' (first
        | with_reducible refine QX.next ?_ | with_reducible refine WC.seq ?_ | with_reducible refine WC.region ?_ | with_reducible refine WC.block ?_ | with_reducible refine QX.bnorm ?_ | with_reducible refine QX.bret ?_ | with_reducible refine QX.ret ?_ | with_reducible refine QX.exit ?_ | with_reducible refine QX.bsame ?_ | with_reducible refine QX.bother rfl ?_
        | with_reducible refine WO.nil ?_ | with_reducible refine WC.skip ?_ | with_reducible refine WC.ret ?_ | with_reducible refine WC.exit ?_ | ((with_reducible refine WC.id ?_); first | refine WC.condT rfl ?_ | refine WC.condF rfl ?_)
        | ((with_reducible refine WQ.cid ?_); first | refine WQ.xG ?_ | refine WQ.pure ?_)
        | ((with_reducible refine WQ.gid ?_); first | refine WQ.on rfl ?_ | refine WQ.offN rfl rfl ?_)
        | ((with_reducible refine WO.cid ?_); first
          | refine WO.x ?_ | (refine op_alloc hg ?_; clear hg; intro b w hg; refine WO.fr ?_) | (refine op_boxA hg ?_; clear hg; intro b w hg; refine WO.fr ?_) | (refine op_box1 hg ?_; clear hg; intro b w hg; refine WO.fr ?_)
          | (refine op_store hg ?_; clear hg; intro w hg; refine WO.fr ?_; try simp only [List.set_cons_succ, List.set_cons_zero] at hg)
          | (refine op_storeA hg ?_; clear hg; intro w hg; refine WO.fr ?_; try simp only [over, List.take_zero, List.take_succ_cons, List.drop_zero, List.drop_succ_cons, List.nil_append, List.cons_append, List.append_nil, List.length_cons, List.length_nil, Nat.zero_add, Nat.reduceAdd, splice, cellsL] at hg)
          | (refine op_pure hg ?_; clear hg; intro w hg; refine WO.fr ?_) | (refine op_pureB hg ?_; clear hg; intro w hg c hc; cases c <;> refine WO.fr ?_))
        | ((with_reducible refine WO.gid ?_); first | refine WO.on rfl ?_ | refine WO.offN rfl rfl ?_))
      have hrp : rput ws ⟨a, md, t⟩ room = (ws.take (ahead ws a) ++ ⟨a, md, t⟩ :: ws.drop (ahead ws a), true) := by
        unfold rput
        simp only [hah, if_false, if_neg (show ¬ room ≤ (ws.length : Int) from by omega)]
      rw [hrp]
      refine ret1 rfl ⟨mset m a ⟨md, t⟩, h', _, rfl, ⟨ph, bm, clock', es', fh', rfl, hH', hm'⟩, ?_, ((((((hg.front 4).front 4).front 4).front 3).front 4).front 5).unthree.sub (by simp)⟩
      have := hR.insert ⟨a, md, t⟩ hnin hp' hhp'
      have e2 : (fun p => if a = p then some (⟨md, t⟩ : Ent) else mget m p) = mget (mset m a ⟨md, t⟩) := funext fun p => (mget_mset m a ⟨md, t⟩ p).symm
      rw [← e2]
      exact this
end Go.Proofs.Ytdjepfpmoeecaaa
