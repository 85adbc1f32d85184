/- The document's window: Keep. -/
import Derived.Test.YtdjepfpmoeecaaaWiS
namespace Go.Proofs.Ytdjepfpmoeecaaa
open Go Go.RowKit
set_option maxRecDepth 10000
set_option linter.unusedSimpArgs false
set_option linter.unusedVariables false
section
variable {pm : Nat} {p : Prm} {s : WS} {f : Frag} {w0 : World}
set_option maxHeartbeats 8000000 in
theorem dKeep_spec (a1 md : Int) (t : Tok) (hF : DocF pm p s f) (hO : Owns w0 f) (hW : WOK p.bytes s) (hal : s.all.length ≤ 100000) : Calls Try.prog 58 #[.pointer (some ⟨pm, 0, none⟩), .agg [.int .i64 a1, .int .i64 md].toArray, .agg t.enc.toArray] w0 fun e w' => ∃ f', e = .returned (.bool (s.keepB p.bytes ⟨a1, md, t⟩)) ∧ DocF pm p (s.keep p.bytes ⟨a1, md, t⟩) f' ∧ Goes w0 (keys f) [f'] w' := by
  have hF0 := hF
  have hs1 := hW.h1; have hs2 := hW.h2; have hs3 := hW.h3; have hs4 := hW.h4; have hb1 := hW.b1; have hb2 := hW.b2
  have hss := str_size s.all
  obtain ⟨a, cap, fr, rfl, hD⟩ := hF
  have hg := hO.goes.pair
  have hcw := (hD.sl (hg.front 1)).cap
  simp only [List.length_map] at hcw
  have hput := fun {w : World} (ho : Sl w a cap 8 (s.ws.map CE.enc)) => rPut_spec w a cap s.ws a1 md t (p.bytes + 1) ho (by omega)
  simp only [Tok.enc] at hput ⊢
  unfold WS.keepB WS.keep
  dsimp only
  refine enter Try.func58 rfl (by simp only [Try.ntmps58, List.length_cons, List.length_nil, Nat.reduceAdd, Nat.reduceSub, List.replicate_succ, List.replicate_zero, List.cons_append, List.nil_append]; exact rfl) ?_
  by_cases hlo : a1 < s.fl
  · rw [if_pos (.inl hlo), if_pos (.inl hlo)]
    repeat' (first
      | with_reducible refine QX.next ?_ | with_reducible refine WC.seq ?_ | with_reducible refine WC.region ?_ | with_reducible refine WC.block ?_ | with_reducible refine QX.bnorm ?_ | with_reducible refine QX.bret ?_ | with_reducible refine QX.ret ?_ | with_reducible refine QX.exit ?_ | with_reducible refine QX.bsame ?_ | with_reducible refine QX.bother rfl ?_
      | with_reducible refine WO.nil ?_ | with_reducible refine WC.skip ?_ | with_reducible refine WC.ret ?_ | with_reducible refine WC.exit ?_ | ((with_reducible refine WC.id ?_); first | refine WC.condT rfl ?_ | refine WC.condF rfl ?_)
      | ((with_reducible refine WQ.cid ?_); first | refine WQ.xG ?_ | refine WQ.pure ?_)
      | ((with_reducible refine WQ.gid ?_); first | refine WQ.on rfl ?_ | refine WQ.offN rfl rfl ?_)
      | ((with_reducible refine WO.cid ?_); first
        | refine WO.x ?_ | (refine op_alloc hg ?_; clear hg; intro b w hg; refine WO.fr ?_) | (refine op_boxA hg ?_; clear hg; intro b w hg; refine WO.fr ?_) | (refine op_box1 hg ?_; clear hg; intro b w hg; refine WO.fr ?_)
        | (refine op_store hg ?_; clear hg; intro w hg; refine WO.fr ?_; try simp only [List.set_cons_succ, List.set_cons_zero] at hg)
        | (refine op_storeA hg ?_; clear hg; intro w hg; refine WO.fr ?_; try simp only [over, List.take_zero, List.take_succ_cons, List.drop_zero, List.drop_succ_cons, List.nil_append, List.cons_append, List.append_nil, List.length_cons, List.length_nil, Nat.zero_add, Nat.reduceAdd, splice, cellsL] at hg)
        | (refine op_pure hg ?_; clear hg; intro w hg; refine WO.fr ?_) | (refine op_pureB hg ?_; clear hg; intro w hg c hc; cases c <;> refine WO.fr ?_))
      | ((with_reducible refine WO.gid ?_); first | refine WO.on rfl ?_ | refine WO.offN rfl rfl ?_))
    refine WC.quietG hg ?_
    clear hg
    repeat' (first
      | ((with_reducible refine WQ.nilG ?_); intro w hg)
      | ((with_reducible refine WQ.cid ?_); first | refine WQ.xG ?_ | refine WQ.pure ?_)
      | ((with_reducible refine WQ.gid ?_); first | refine WQ.on rfl ?_ | refine WQ.offN rfl rfl ?_))
    repeat' (first
      | with_reducible refine QX.next ?_ | with_reducible refine WC.seq ?_ | with_reducible refine WC.region ?_ | with_reducible refine WC.block ?_ | with_reducible refine QX.bnorm ?_ | with_reducible refine QX.bret ?_ | with_reducible refine QX.ret ?_ | with_reducible refine QX.exit ?_ | with_reducible refine QX.bsame ?_ | with_reducible refine QX.bother rfl ?_
      | with_reducible refine WO.nil ?_ | with_reducible refine WC.skip ?_ | with_reducible refine WC.ret ?_ | with_reducible refine WC.exit ?_ | ((with_reducible refine WC.id ?_); first | refine WC.condT rfl ?_ | refine WC.condF rfl ?_)
      | ((with_reducible refine WQ.cid ?_); first | refine WQ.xG ?_ | refine WQ.pure ?_)
      | ((with_reducible refine WQ.gid ?_); first | refine WQ.on rfl ?_ | refine WQ.offN rfl rfl ?_)
      | ((with_reducible refine WO.cid ?_); first
        | refine WO.x ?_ | (refine op_alloc hg ?_; clear hg; intro b w hg; refine WO.fr ?_) | (refine op_boxA hg ?_; clear hg; intro b w hg; refine WO.fr ?_) | (refine op_box1 hg ?_; clear hg; intro b w hg; refine WO.fr ?_)
        | (refine op_store hg ?_; clear hg; intro w hg; refine WO.fr ?_; try simp only [List.set_cons_succ, List.set_cons_zero] at hg)
        | (refine op_storeA hg ?_; clear hg; intro w hg; refine WO.fr ?_; try simp only [over, List.take_zero, List.take_succ_cons, List.drop_zero, List.drop_succ_cons, List.nil_append, List.cons_append, List.append_nil, List.length_cons, List.length_nil, Nat.zero_add, Nat.reduceAdd, splice, cellsL] at hg)
        | (refine op_pure hg ?_; clear hg; intro w hg; refine WO.fr ?_) | (refine op_pureB hg ?_; clear hg; intro w hg c hc; cases c <;> refine WO.fr ?_))
      | ((with_reducible refine WO.gid ?_); first | refine WO.on rfl ?_ | refine WO.offN rfl rfl ?_))
    exact ret1 rfl ⟨_, rfl, hF0, ((((hg.front 1).front 1).front 3).front 3).unpair.head⟩
  by_cases hhi : (s.all.length : Int) < a1
  · rw [if_pos (.inr hhi), if_pos (.inr hhi)]
    rw [← hss] at hhi
    repeat' (first
      | with_reducible refine QX.next ?_ | with_reducible refine WC.seq ?_ | with_reducible refine WC.region ?_ | with_reducible refine WC.block ?_ | with_reducible refine QX.bnorm ?_ | with_reducible refine QX.bret ?_ | with_reducible refine QX.ret ?_ | with_reducible refine QX.exit ?_ | with_reducible refine QX.bsame ?_ | with_reducible refine QX.bother rfl ?_
      | with_reducible refine WO.nil ?_ | with_reducible refine WC.skip ?_ | with_reducible refine WC.ret ?_ | with_reducible refine WC.exit ?_ | ((with_reducible refine WC.id ?_); first | refine WC.condT rfl ?_ | refine WC.condF rfl ?_)
      | ((with_reducible refine WQ.cid ?_); first | refine WQ.xG ?_ | refine WQ.pure ?_)
      | ((with_reducible refine WQ.gid ?_); first | refine WQ.on rfl ?_ | refine WQ.offN rfl rfl ?_)
      | ((with_reducible refine WO.cid ?_); first
        | refine WO.x ?_ | (refine op_alloc hg ?_; clear hg; intro b w hg; refine WO.fr ?_) | (refine op_boxA hg ?_; clear hg; intro b w hg; refine WO.fr ?_) | (refine op_box1 hg ?_; clear hg; intro b w hg; refine WO.fr ?_)
        | (refine op_store hg ?_; clear hg; intro w hg; refine WO.fr ?_; try simp only [List.set_cons_succ, List.set_cons_zero] at hg)
        | (refine op_storeA hg ?_; clear hg; intro w hg; refine WO.fr ?_; try simp only [over, List.take_zero, List.take_succ_cons, List.drop_zero, List.drop_succ_cons, List.nil_append, List.cons_append, List.append_nil, List.length_cons, List.length_nil, Nat.zero_add, Nat.reduceAdd, splice, cellsL] at hg)
        | (refine op_pure hg ?_; clear hg; intro w hg; refine WO.fr ?_) | (refine op_pureB hg ?_; clear hg; intro w hg c hc; cases c <;> refine WO.fr ?_))
      | ((with_reducible refine WO.gid ?_); first | refine WO.on rfl ?_ | refine WO.offN rfl rfl ?_))
    refine WC.quietG hg ?_
    clear hg
    repeat' (first
      | ((with_reducible refine WQ.nilG ?_); intro w hg)
      | ((with_reducible refine WQ.cid ?_); first | refine WQ.xG ?_ | refine WQ.pure ?_)
      | ((with_reducible refine WQ.gid ?_); first | refine WQ.on rfl ?_ | refine WQ.offN rfl rfl ?_))
    repeat' (first
      | with_reducible refine QX.next ?_ | with_reducible refine WC.seq ?_ | with_reducible refine WC.region ?_ | with_reducible refine WC.block ?_ | with_reducible refine QX.bnorm ?_ | with_reducible refine QX.bret ?_ | with_reducible refine QX.ret ?_ | with_reducible refine QX.exit ?_ | with_reducible refine QX.bsame ?_ | with_reducible refine QX.bother rfl ?_
      | with_reducible refine WO.nil ?_ | with_reducible refine WC.skip ?_ | with_reducible refine WC.ret ?_ | with_reducible refine WC.exit ?_ | ((with_reducible refine WC.id ?_); first | refine WC.condT rfl ?_ | refine WC.condF rfl ?_)
      | ((with_reducible refine WQ.cid ?_); first | refine WQ.xG ?_ | refine WQ.pure ?_)
      | ((with_reducible refine WQ.gid ?_); first | refine WQ.on rfl ?_ | refine WQ.offN rfl rfl ?_)
      | ((with_reducible refine WO.cid ?_); first
        | refine WO.x ?_ | (refine op_alloc hg ?_; clear hg; intro b w hg; refine WO.fr ?_) | (refine op_boxA hg ?_; clear hg; intro b w hg; refine WO.fr ?_) | (refine op_box1 hg ?_; clear hg; intro b w hg; refine WO.fr ?_)
        | (refine op_store hg ?_; clear hg; intro w hg; refine WO.fr ?_; try simp only [List.set_cons_succ, List.set_cons_zero] at hg)
        | (refine op_storeA hg ?_; clear hg; intro w hg; refine WO.fr ?_; try simp only [over, List.take_zero, List.take_succ_cons, List.drop_zero, List.drop_succ_cons, List.nil_append, List.cons_append, List.append_nil, List.length_cons, List.length_nil, Nat.zero_add, Nat.reduceAdd, splice, cellsL] at hg)
        | (refine op_pure hg ?_; clear hg; intro w hg; refine WO.fr ?_) | (refine op_pureB hg ?_; clear hg; intro w hg c hc; cases c <;> refine WO.fr ?_))
      | ((with_reducible refine WO.gid ?_); first | refine WO.on rfl ?_ | refine WO.offN rfl rfl ?_))
    exact ret1 rfl ⟨_, rfl, hF0, ((((hg.front 1).front 1).front 3).front 3).unpair.head⟩
  have hno : ¬ (a1 < (s.fl : Int) ∨ (s.all.length : Int) < a1) := by omega
  rw [if_neg hno, if_neg hno]
  rw [← hss] at hhi
  repeat' (first
    | with_reducible refine QX.next ?_ | with_reducible refine WC.seq ?_ | with_reducible refine WC.region ?_ | with_reducible refine WC.block ?_ | with_reducible refine QX.bnorm ?_ | with_reducible refine QX.bret ?_ | with_reducible refine QX.ret ?_ | with_reducible refine QX.exit ?_ | with_reducible refine QX.bsame ?_ | with_reducible refine QX.bother rfl ?_
    | with_reducible refine WO.nil ?_ | with_reducible refine WC.skip ?_ | with_reducible refine WC.ret ?_ | with_reducible refine WC.exit ?_ | ((with_reducible refine WC.id ?_); first | refine WC.condT rfl ?_ | refine WC.condF rfl ?_)
    | ((with_reducible refine WQ.cid ?_); first | refine WQ.xG ?_ | refine WQ.pure ?_)
    | ((with_reducible refine WQ.gid ?_); first | refine WQ.on rfl ?_ | refine WQ.offN rfl rfl ?_)
    | ((with_reducible refine WO.cid ?_); first
      | refine WO.x ?_ | (refine op_alloc hg ?_; clear hg; intro b w hg; refine WO.fr ?_) | (refine op_boxA hg ?_; clear hg; intro b w hg; refine WO.fr ?_) | (refine op_box1 hg ?_; clear hg; intro b w hg; refine WO.fr ?_)
      | (refine op_store hg ?_; clear hg; intro w hg; refine WO.fr ?_; try simp only [List.set_cons_succ, List.set_cons_zero] at hg)
      | (refine op_storeA hg ?_; clear hg; intro w hg; refine WO.fr ?_; try simp only [over, List.take_zero, List.take_succ_cons, List.drop_zero, List.drop_succ_cons, List.nil_append, List.cons_append, List.append_nil, List.length_cons, List.length_nil, Nat.zero_add, Nat.reduceAdd, splice, cellsL] at hg)
      | (refine op_pure hg ?_; clear hg; intro w hg; refine WO.fr ?_) | (refine op_pureB hg ?_; clear hg; intro w hg c hc; cases c <;> refine WO.fr ?_))
    | ((with_reducible refine WO.gid ?_); first | refine WO.on rfl ?_ | refine WO.offN rfl rfl ?_))
  rename_i bs _
  refine WC.quietG hg ?_
  clear hg
  repeat' (first
    | ((with_reducible refine WQ.nilG ?_); intro w hg)
    | ((with_reducible refine WQ.cid ?_); first | refine WQ.xG ?_ | refine WQ.pure ?_)
    | ((with_reducible refine WQ.gid ?_); first | refine WQ.on rfl ?_ | refine WQ.offN rfl rfl ?_))
  repeat' (first
    | with_reducible refine QX.next ?_ | with_reducible refine WC.seq ?_ | with_reducible refine WC.region ?_ | with_reducible refine WC.block ?_ | with_reducible refine QX.bnorm ?_ | with_reducible refine QX.bret ?_ | with_reducible refine QX.ret ?_ | with_reducible refine QX.exit ?_ | with_reducible refine QX.bsame ?_ | with_reducible refine QX.bother rfl ?_
    | with_reducible refine WO.nil ?_ | with_reducible refine WC.skip ?_ | with_reducible refine WC.ret ?_ | with_reducible refine WC.exit ?_ | ((with_reducible refine WC.id ?_); first | refine WC.condT rfl ?_ | refine WC.condF rfl ?_)
    | ((with_reducible refine WQ.cid ?_); first | refine WQ.xG ?_ | refine WQ.pure ?_)
    | ((with_reducible refine WQ.gid ?_); first | refine WQ.on rfl ?_ | refine WQ.offN rfl rfl ?_)
    | ((with_reducible refine WO.cid ?_); first
      | refine WO.x ?_ | (refine op_alloc hg ?_; clear hg; intro b w hg; refine WO.fr ?_) | (refine op_boxA hg ?_; clear hg; intro b w hg; refine WO.fr ?_) | (refine op_box1 hg ?_; clear hg; intro b w hg; refine WO.fr ?_)
      | (refine op_store hg ?_; clear hg; intro w hg; refine WO.fr ?_; try simp only [List.set_cons_succ, List.set_cons_zero] at hg)
      | (refine op_storeA hg ?_; clear hg; intro w hg; refine WO.fr ?_; try simp only [over, List.take_zero, List.take_succ_cons, List.drop_zero, List.drop_succ_cons, List.nil_append, List.cons_append, List.append_nil, List.length_cons, List.length_nil, Nat.zero_add, Nat.reduceAdd, splice, cellsL] at hg)
      | (refine op_pure hg ?_; clear hg; intro w hg; refine WO.fr ?_) | (refine op_pureB hg ?_; clear hg; intro w hg c hc; cases c <;> refine WO.fr ?_))
    | ((with_reducible refine WO.gid ?_); first | refine WO.on rfl ?_ | refine WO.offN rfl rfl ?_))
  have s1 : ∀ {w : World}, (w.heap[pm]? = some (.cells [.int .i64 p.bytes, .int .i64 p.trail, .int .i64 p.marks, .int .i64 p.ahead, .int .i64 p.tickets, .int .i64 p.retries, .int .i64 p.step, .string (str s.all), .int .i64 (s.low : Nat), .int .i64 (s.fl : Nat), .slice a s.ws.length cap].toArray 71 (0, 0)) ∧ w.heap[bs]? = some (.cells [.int .i64 a1, .int .i64 md].toArray 27 (0, 0)) ∧ w.heap[b]? = some (.cells [.int .i64 t.kind, .int .i64 t.rule, .int .i64 t.fr, .int .i64 t.at', .int .i64 t.to, .int .i64 t.mode].toArray 29 (0, 0))) → w.cell? ⟨pm, 10, none⟩ = some (.slice a s.ws.length cap) := fun h => heap_cell h.1 rfl
  have s2 : ∀ {w : World}, (w.heap[pm]? = some (.cells [.int .i64 p.bytes, .int .i64 p.trail, .int .i64 p.marks, .int .i64 p.ahead, .int .i64 p.tickets, .int .i64 p.retries, .int .i64 p.step, .string (str s.all), .int .i64 (s.low : Nat), .int .i64 (s.fl : Nat), .slice a s.ws.length cap].toArray 71 (0, 0)) ∧ w.heap[bs]? = some (.cells [.int .i64 a1, .int .i64 md].toArray 27 (0, 0)) ∧ w.heap[b]? = some (.cells [.int .i64 t.kind, .int .i64 t.rule, .int .i64 t.fr, .int .i64 t.at', .int .i64 t.to, .int .i64 t.mode].toArray 29 (0, 0))) → w.cell? ⟨pm, 0, none⟩ = some (.int .i64 p.bytes) := fun h => heap_cell h.1 rfl
  have s3 : ∀ {w : World}, (w.heap[pm]? = some (.cells [.int .i64 p.bytes, .int .i64 p.trail, .int .i64 p.marks, .int .i64 p.ahead, .int .i64 p.tickets, .int .i64 p.retries, .int .i64 p.step, .string (str s.all), .int .i64 (s.low : Nat), .int .i64 (s.fl : Nat), .slice a s.ws.length cap].toArray 71 (0, 0)) ∧ w.heap[bs]? = some (.cells [.int .i64 a1, .int .i64 md].toArray 27 (0, 0)) ∧ w.heap[b]? = some (.cells [.int .i64 t.kind, .int .i64 t.rule, .int .i64 t.fr, .int .i64 t.at', .int .i64 t.to, .int .i64 t.mode].toArray 29 (0, 0))) → w.cell? ⟨pm, 9, none⟩ = some (.int .i64 s.fl) := fun h => heap_cell h.1 rfl
  have t1 : ∀ {w : World}, (w.heap[pm]? = some (.cells [.int .i64 p.bytes, .int .i64 p.trail, .int .i64 p.marks, .int .i64 p.ahead, .int .i64 p.tickets, .int .i64 p.retries, .int .i64 p.step, .string (str s.all), .int .i64 (s.low : Nat), .int .i64 (s.fl : Nat), .slice a s.ws.length cap].toArray 71 (0, 0)) ∧ w.heap[bs]? = some (.cells [.int .i64 a1, .int .i64 md].toArray 27 (0, 0)) ∧ w.heap[b]? = some (.cells [.int .i64 t.kind, .int .i64 t.rule, .int .i64 t.fr, .int .i64 t.at', .int .i64 t.to, .int .i64 t.mode].toArray 29 (0, 0))) → Cells w ⟨bs, 0, none⟩ [.int .i64 a1, .int .i64 md] := fun h => heap_cells h.2.1 rfl
  have t2 : ∀ {w : World}, (w.heap[pm]? = some (.cells [.int .i64 p.bytes, .int .i64 p.trail, .int .i64 p.marks, .int .i64 p.ahead, .int .i64 p.tickets, .int .i64 p.retries, .int .i64 p.step, .string (str s.all), .int .i64 (s.low : Nat), .int .i64 (s.fl : Nat), .slice a s.ws.length cap].toArray 71 (0, 0)) ∧ w.heap[bs]? = some (.cells [.int .i64 a1, .int .i64 md].toArray 27 (0, 0)) ∧ w.heap[b]? = some (.cells [.int .i64 t.kind, .int .i64 t.rule, .int .i64 t.fr, .int .i64 t.at', .int .i64 t.to, .int .i64 t.mode].toArray 29 (0, 0))) → Cells w ⟨b, 0, none⟩ [.int .i64 t.kind, .int .i64 t.rule, .int .i64 t.fr, .int .i64 t.at', .int .i64 t.to, .int .i64 t.mode] := fun h => heap_cells h.2.2 rfl
  refine WC.drawn (fun w => w.heap[pm]? = some (.cells [.int .i64 p.bytes, .int .i64 p.trail, .int .i64 p.marks, .int .i64 p.ahead, .int .i64 p.tickets, .int .i64 p.retries, .int .i64 p.step, .string (str s.all), .int .i64 (s.low : Nat), .int .i64 (s.fl : Nat), .slice a s.ws.length cap].toArray 71 (0, 0)) ∧ w.heap[bs]? = some (.cells [.int .i64 a1, .int .i64 md].toArray 27 (0, 0)) ∧ w.heap[b]? = some (.cells [.int .i64 t.kind, .int .i64 t.rule, .int .i64 t.fr, .int .i64 t.at', .int .i64 t.to, .int .i64 t.mode].toArray 29 (0, 0))) [] hg ?_
  clear hg
  intro w hg
  have hS : (fun w => w.heap[pm]? = some (.cells [.int .i64 p.bytes, .int .i64 p.trail, .int .i64 p.marks, .int .i64 p.ahead, .int .i64 p.tickets, .int .i64 p.retries, .int .i64 p.step, .string (str s.all), .int .i64 (s.low : Nat), .int .i64 (s.fl : Nat), .slice a s.ws.length cap].toArray 71 (0, 0)) ∧ w.heap[bs]? = some (.cells [.int .i64 a1, .int .i64 md].toArray 27 (0, 0)) ∧ w.heap[b]? = some (.cells [.int .i64 t.kind, .int .i64 t.rule, .int .i64 t.fr, .int .i64 t.at', .int .i64 t.to, .int .i64 t.mode].toArray 29 (0, 0))) w := ⟨hg.own (pm, .cells [.int .i64 p.bytes, .int .i64 p.trail, .int .i64 p.marks, .int .i64 p.ahead, .int .i64 p.tickets, .int .i64 p.retries, .int .i64 p.step, .string (str s.all), .int .i64 (s.low : Nat), .int .i64 (s.fl : Nat), .slice a s.ws.length cap].toArray 71 (0, 0)) (by simp), hg.own (bs, .cells [.int .i64 a1, .int .i64 md].toArray 27 (0, 0)) (by simp), hg.own (b, .cells [.int .i64 t.kind, .int .i64 t.rule, .int .i64 t.fr, .int .i64 t.at', .int .i64 t.to, .int .i64 t.mode].toArray 29 (0, 0)) (by simp)⟩
  refine WA.passM 0 hS ?_
  refine WA.passM 1 hS ?_
  refine WA.passM 2 hS ?_
  refine WA.passM 6 hS ?_
  refine WA.passM 7 hS ?_
  refine WA.passM 8 hS ?_
  refine WA.passM 9 hS ?_
  refine WA.passM 3 hS ?_
  refine WA.passM 4 hS ?_
  refine WA.passM 5 hS ?_
  refine WA.passM 10 hS ?_
  refine WA.passM 11 hS ?_
  refine WA.only 12 ?_
  refine op_call (hput (hD.sl (hg.front 3))) ?_
  rintro _ w (⟨hr, a', cap', f', rfl, hO', hg2⟩ | ⟨hr, rfl, hg2⟩)
  · replace hg := hg.call0 hg2
    simp only [List.cons_append, List.nil_append] at hg
    clear hg2 hS
    refine ⟨_, rfl, ?_⟩
    refine WO.fr ?_
    rw [hr, if_pos rfl, if_pos rfl]
    have hS : (fun w => w.heap[pm]? = some (.cells [.int .i64 p.bytes, .int .i64 p.trail, .int .i64 p.marks, .int .i64 p.ahead, .int .i64 p.tickets, .int .i64 p.retries, .int .i64 p.step, .string (str s.all), .int .i64 (s.low : Nat), .int .i64 (s.fl : Nat), .slice a s.ws.length cap].toArray 71 (0, 0)) ∧ w.heap[bs]? = some (.cells [.int .i64 a1, .int .i64 md].toArray 27 (0, 0)) ∧ w.heap[b]? = some (.cells [.int .i64 t.kind, .int .i64 t.rule, .int .i64 t.fr, .int .i64 t.at', .int .i64 t.to, .int .i64 t.mode].toArray 29 (0, 0))) w := ⟨hg.own (pm, .cells [.int .i64 p.bytes, .int .i64 p.trail, .int .i64 p.marks, .int .i64 p.ahead, .int .i64 p.tickets, .int .i64 p.retries, .int .i64 p.step, .string (str s.all), .int .i64 (s.low : Nat), .int .i64 (s.fl : Nat), .slice a s.ws.length cap].toArray 71 (0, 0)) (by simp), hg.own (bs, .cells [.int .i64 a1, .int .i64 md].toArray 27 (0, 0)) (by simp), hg.own (b, .cells [.int .i64 t.kind, .int .i64 t.rule, .int .i64 t.fr, .int .i64 t.at', .int .i64 t.to, .int .i64 t.mode].toArray 29 (0, 0)) (by simp)⟩
    refine WO.nilA hS ?_
    refine WA.passM 13 hS ?_
    refine WA.passM 14 hS ?_
    refine WA.passM 15 hS ?_
    refine WA.passM 16 hS ?_
    refine WA.passM 17 hS ?_
    refine WA.nil ?_
    clear hS s1 s2 s3 t1 t2
    repeat' (first
      | with_reducible refine QX.next ?_ | with_reducible refine WC.seq ?_ | with_reducible refine WC.region ?_ | with_reducible refine WC.block ?_ | with_reducible refine QX.bnorm ?_ | with_reducible refine QX.bret ?_ | with_reducible refine QX.ret ?_ | with_reducible refine QX.exit ?_ | with_reducible refine QX.bsame ?_ | with_reducible refine QX.bother rfl ?_
      | with_reducible refine WO.nil ?_ | with_reducible refine WC.skip ?_ | with_reducible refine WC.ret ?_ | with_reducible refine WC.exit ?_ | ((with_reducible refine WC.id ?_); first | refine WC.condT rfl ?_ | refine WC.condF rfl ?_)
      | ((with_reducible refine WQ.cid ?_); first | refine WQ.xG ?_ | refine WQ.pure ?_)
      | ((with_reducible refine WQ.gid ?_); first | refine WQ.on rfl ?_ | refine WQ.offN rfl rfl ?_)
      | ((with_reducible refine WO.cid ?_); first
        | refine WO.x ?_ | (refine op_alloc hg ?_; clear hg; intro b w hg; refine WO.fr ?_) | (refine op_boxA hg ?_; clear hg; intro b w hg; refine WO.fr ?_) | (refine op_box1 hg ?_; clear hg; intro b w hg; refine WO.fr ?_)
        | (refine op_store hg ?_; clear hg; intro w hg; refine WO.fr ?_; try simp only [List.set_cons_succ, List.set_cons_zero] at hg)
        | (refine op_storeA hg ?_; clear hg; intro w hg; refine WO.fr ?_; try simp only [over, List.take_zero, List.take_succ_cons, List.drop_zero, List.drop_succ_cons, List.nil_append, List.cons_append, List.append_nil, List.length_cons, List.length_nil, Nat.zero_add, Nat.reduceAdd, splice, cellsL] at hg)
        | (refine op_pure hg ?_; clear hg; intro w hg; refine WO.fr ?_) | (refine op_pureB hg ?_; clear hg; intro w hg c hc; cases c <;> refine WO.fr ?_))
      | ((with_reducible refine WO.gid ?_); first | refine WO.on rfl ?_ | refine WO.offN rfl rfl ?_))
    exact ret1 rfl ⟨_, rfl, ⟨a', cap', f', rfl, hO'.rd (fun r hr => by obtain ⟨x, _, rfl⟩ := List.mem_map.1 hr; rfl) (by simp) (by have := rput_room (e := ⟨a1, md, t⟩) hs4; omega)⟩, (((((hg.front 4).front 3).front 3).front 3).front 4).unpair.head⟩
  replace hg := hg.call00 hg2
  clear hg2 hS
  refine ⟨_, rfl, ?_⟩
  refine WO.fr ?_
  have hfn : ¬ ((s.ws, false) : List CE × Bool).2 = true := fun h => by cases h
  rw [hr, if_neg hfn, if_neg hfn]
  have hsl := rsweep_le s.ws ((s.fl : Nat) : Int) 1
  have hS : (fun w => w.heap[pm]? = some (.cells [.int .i64 p.bytes, .int .i64 p.trail, .int .i64 p.marks, .int .i64 p.ahead, .int .i64 p.tickets, .int .i64 p.retries, .int .i64 p.step, .string (str s.all), .int .i64 (s.low : Nat), .int .i64 (s.fl : Nat), .slice a s.ws.length cap].toArray 71 (0, 0)) ∧ w.heap[bs]? = some (.cells [.int .i64 a1, .int .i64 md].toArray 27 (0, 0)) ∧ w.heap[b]? = some (.cells [.int .i64 t.kind, .int .i64 t.rule, .int .i64 t.fr, .int .i64 t.at', .int .i64 t.to, .int .i64 t.mode].toArray 29 (0, 0))) w := ⟨hg.own (pm, .cells [.int .i64 p.bytes, .int .i64 p.trail, .int .i64 p.marks, .int .i64 p.ahead, .int .i64 p.tickets, .int .i64 p.retries, .int .i64 p.step, .string (str s.all), .int .i64 (s.low : Nat), .int .i64 (s.fl : Nat), .slice a s.ws.length cap].toArray 71 (0, 0)) (by simp), hg.own (bs, .cells [.int .i64 a1, .int .i64 md].toArray 27 (0, 0)) (by simp), hg.own (b, .cells [.int .i64 t.kind, .int .i64 t.rule, .int .i64 t.fr, .int .i64 t.at', .int .i64 t.to, .int .i64 t.mode].toArray 29 (0, 0)) (by simp)⟩
  refine WO.nilA hS ?_
  refine WA.passM 13 hS ?_
  refine WA.passM 14 hS ?_
  refine WA.passM 15 hS ?_
  refine WA.passM 16 hS ?_
  refine WA.passM 17 hS ?_
  refine WA.nil ?_
  clear hS
  repeat' (first
    | with_reducible refine QX.next ?_ | with_reducible refine WC.seq ?_ | with_reducible refine WC.region ?_ | with_reducible refine WC.block ?_ | with_reducible refine QX.bnorm ?_ | with_reducible refine QX.bret ?_ | with_reducible refine QX.ret ?_ | with_reducible refine QX.exit ?_ | with_reducible refine QX.bsame ?_ | with_reducible refine QX.bother rfl ?_
    | with_reducible refine WO.nil ?_ | with_reducible refine WC.skip ?_ | with_reducible refine WC.ret ?_ | with_reducible refine WC.exit ?_ | ((with_reducible refine WC.id ?_); first | refine WC.condT rfl ?_ | refine WC.condF rfl ?_)
    | ((with_reducible refine WQ.cid ?_); first | refine WQ.xG ?_ | refine WQ.pure ?_)
    | ((with_reducible refine WQ.gid ?_); first | refine WQ.on rfl ?_ | refine WQ.offN rfl rfl ?_)
    | ((with_reducible refine WO.cid ?_); first
      | refine WO.x ?_ | (refine op_alloc hg ?_; clear hg; intro b w hg; refine WO.fr ?_) | (refine op_boxA hg ?_; clear hg; intro b w hg; refine WO.fr ?_) | (refine op_box1 hg ?_; clear hg; intro b w hg; refine WO.fr ?_)
      | (refine op_store hg ?_; clear hg; intro w hg; refine WO.fr ?_; try simp only [List.set_cons_succ, List.set_cons_zero] at hg)
      | (refine op_storeA hg ?_; clear hg; intro w hg; refine WO.fr ?_; try simp only [over, List.take_zero, List.take_succ_cons, List.drop_zero, List.drop_succ_cons, List.nil_append, List.cons_append, List.append_nil, List.length_cons, List.length_nil, Nat.zero_add, Nat.reduceAdd, splice, cellsL] at hg)
      | (refine op_pure hg ?_; clear hg; intro w hg; refine WO.fr ?_) | (refine op_pureB hg ?_; clear hg; intro w hg c hc; cases c <;> refine WO.fr ?_))
    | ((with_reducible refine WO.gid ?_); first | refine WO.on rfl ?_ | refine WO.offN rfl rfl ?_))
  refine WC.drawn (fun w => w.heap[pm]? = some (.cells [.int .i64 p.bytes, .int .i64 p.trail, .int .i64 p.marks, .int .i64 p.ahead, .int .i64 p.tickets, .int .i64 p.retries, .int .i64 p.step, .string (str s.all), .int .i64 (s.low : Nat), .int .i64 (s.fl : Nat), .slice a s.ws.length cap].toArray 71 (0, 0)) ∧ w.heap[bs]? = some (.cells [.int .i64 a1, .int .i64 md].toArray 27 (0, 0)) ∧ w.heap[b]? = some (.cells [.int .i64 t.kind, .int .i64 t.rule, .int .i64 t.fr, .int .i64 t.at', .int .i64 t.to, .int .i64 t.mode].toArray 29 (0, 0))) [] hg ?_
  clear hg
  intro w hg
  have hS : (fun w => w.heap[pm]? = some (.cells [.int .i64 p.bytes, .int .i64 p.trail, .int .i64 p.marks, .int .i64 p.ahead, .int .i64 p.tickets, .int .i64 p.retries, .int .i64 p.step, .string (str s.all), .int .i64 (s.low : Nat), .int .i64 (s.fl : Nat), .slice a s.ws.length cap].toArray 71 (0, 0)) ∧ w.heap[bs]? = some (.cells [.int .i64 a1, .int .i64 md].toArray 27 (0, 0)) ∧ w.heap[b]? = some (.cells [.int .i64 t.kind, .int .i64 t.rule, .int .i64 t.fr, .int .i64 t.at', .int .i64 t.to, .int .i64 t.mode].toArray 29 (0, 0))) w := ⟨hg.own (pm, .cells [.int .i64 p.bytes, .int .i64 p.trail, .int .i64 p.marks, .int .i64 p.ahead, .int .i64 p.tickets, .int .i64 p.retries, .int .i64 p.step, .string (str s.all), .int .i64 (s.low : Nat), .int .i64 (s.fl : Nat), .slice a s.ws.length cap].toArray 71 (0, 0)) (by simp), hg.own (bs, .cells [.int .i64 a1, .int .i64 md].toArray 27 (0, 0)) (by simp), hg.own (b, .cells [.int .i64 t.kind, .int .i64 t.rule, .int .i64 t.fr, .int .i64 t.at', .int .i64 t.to, .int .i64 t.mode].toArray 29 (0, 0)) (by simp)⟩
  refine WA.passM 0 hS ?_
  refine WA.passM 1 hS ?_
  refine WA.passM 2 hS ?_
  refine WA.passM 4 hS ?_
  refine WA.passM 5 hS ?_
  refine WA.passM 6 hS ?_
  refine WA.passM 3 hS ?_
  refine WA.passM 7 hS ?_
  refine WA.only 8 ?_
  refine op_pure hg ?_ (hc := rSweep_spec _ a cap s.ws _ _ (hD.sl (hg.front 3)))
  clear hg hS
  intro w hg
  refine WO.fr ?_
  have hS : (fun w => w.heap[pm]? = some (.cells [.int .i64 p.bytes, .int .i64 p.trail, .int .i64 p.marks, .int .i64 p.ahead, .int .i64 p.tickets, .int .i64 p.retries, .int .i64 p.step, .string (str s.all), .int .i64 (s.low : Nat), .int .i64 (s.fl : Nat), .slice a s.ws.length cap].toArray 71 (0, 0)) ∧ w.heap[bs]? = some (.cells [.int .i64 a1, .int .i64 md].toArray 27 (0, 0)) ∧ w.heap[b]? = some (.cells [.int .i64 t.kind, .int .i64 t.rule, .int .i64 t.fr, .int .i64 t.at', .int .i64 t.to, .int .i64 t.mode].toArray 29 (0, 0))) w := ⟨hg.own (pm, .cells [.int .i64 p.bytes, .int .i64 p.trail, .int .i64 p.marks, .int .i64 p.ahead, .int .i64 p.tickets, .int .i64 p.retries, .int .i64 p.step, .string (str s.all), .int .i64 (s.low : Nat), .int .i64 (s.fl : Nat), .slice a s.ws.length cap].toArray 71 (0, 0)) (by simp), hg.own (bs, .cells [.int .i64 a1, .int .i64 md].toArray 27 (0, 0)) (by simp), hg.own (b, .cells [.int .i64 t.kind, .int .i64 t.rule, .int .i64 t.fr, .int .i64 t.at', .int .i64 t.to, .int .i64 t.mode].toArray 29 (0, 0)) (by simp)⟩
  refine WO.nilA hS ?_
  refine WA.passM 9 hS ?_
  refine WA.nil ?_
  generalize rsweep s.ws ((s.fl : Nat) : Int) 1 = n at hsl ⊢
  clear hS
  repeat' (first
    | with_reducible refine QX.next ?_ | with_reducible refine WC.seq ?_ | with_reducible refine WC.region ?_ | with_reducible refine WC.block ?_ | with_reducible refine QX.bnorm ?_ | with_reducible refine QX.bret ?_ | with_reducible refine QX.ret ?_ | with_reducible refine QX.exit ?_ | with_reducible refine QX.bsame ?_ | with_reducible refine QX.bother rfl ?_
    | with_reducible refine WO.nil ?_ | with_reducible refine WC.skip ?_ | with_reducible refine WC.ret ?_ | with_reducible refine WC.exit ?_ | ((with_reducible refine WC.id ?_); first | refine WC.condT rfl ?_ | refine WC.condF rfl ?_)
    | ((with_reducible refine WQ.cid ?_); first | refine WQ.xG ?_ | refine WQ.pure ?_)
    | ((with_reducible refine WQ.gid ?_); first | refine WQ.on rfl ?_ | refine WQ.offN rfl rfl ?_)
    | ((with_reducible refine WO.cid ?_); first
      | refine WO.x ?_ | (refine op_alloc hg ?_; clear hg; intro b w hg; refine WO.fr ?_) | (refine op_boxA hg ?_; clear hg; intro b w hg; refine WO.fr ?_) | (refine op_box1 hg ?_; clear hg; intro b w hg; refine WO.fr ?_)
      | (refine op_store hg ?_; clear hg; intro w hg; refine WO.fr ?_; try simp only [List.set_cons_succ, List.set_cons_zero] at hg)
      | (refine op_storeA hg ?_; clear hg; intro w hg; refine WO.fr ?_; try simp only [over, List.take_zero, List.take_succ_cons, List.drop_zero, List.drop_succ_cons, List.nil_append, List.cons_append, List.append_nil, List.length_cons, List.length_nil, Nat.zero_add, Nat.reduceAdd, splice, cellsL] at hg)
      | (refine op_pure hg ?_; clear hg; intro w hg; refine WO.fr ?_) | (refine op_pureB hg ?_; clear hg; intro w hg c hc; cases c <;> refine WO.fr ?_))
    | ((with_reducible refine WO.gid ?_); first | refine WO.on rfl ?_ | refine WO.offN rfl rfl ?_))
  have hD2 : Rd fr (moved a n 8 cap) (cap - n) 8 ((s.ws.drop n).map CE.enc) := by
    have h1 := hD.part n (s.ws.length - n) (by simp; omega)
    rwa [← List.map_drop, ← List.map_take, List.take_of_length_le (by simp)] at h1
  have hld : s.ws.length - n = (s.ws.drop n).length := by simp
  have hdl : ((s.ws.drop n).length : Int) ≤ p.bytes + 1 := by omega
  refine WC.drawn (fun w => w.heap[pm]? = some (.cells [.int .i64 p.bytes, .int .i64 p.trail, .int .i64 p.marks, .int .i64 p.ahead, .int .i64 p.tickets, .int .i64 p.retries, .int .i64 p.step, .string (str s.all), .int .i64 (s.low : Nat), .int .i64 (s.fl : Nat), .slice a s.ws.length cap].toArray 71 (0, 0)) ∧ w.heap[bs]? = some (.cells [.int .i64 a1, .int .i64 md].toArray 27 (0, 0)) ∧ w.heap[b]? = some (.cells [.int .i64 t.kind, .int .i64 t.rule, .int .i64 t.fr, .int .i64 t.at', .int .i64 t.to, .int .i64 t.mode].toArray 29 (0, 0))) [] hg ?_
  clear hg
  intro w hg
  have hS : (fun w => w.heap[pm]? = some (.cells [.int .i64 p.bytes, .int .i64 p.trail, .int .i64 p.marks, .int .i64 p.ahead, .int .i64 p.tickets, .int .i64 p.retries, .int .i64 p.step, .string (str s.all), .int .i64 (s.low : Nat), .int .i64 (s.fl : Nat), .slice a s.ws.length cap].toArray 71 (0, 0)) ∧ w.heap[bs]? = some (.cells [.int .i64 a1, .int .i64 md].toArray 27 (0, 0)) ∧ w.heap[b]? = some (.cells [.int .i64 t.kind, .int .i64 t.rule, .int .i64 t.fr, .int .i64 t.at', .int .i64 t.to, .int .i64 t.mode].toArray 29 (0, 0))) w := ⟨hg.own (pm, .cells [.int .i64 p.bytes, .int .i64 p.trail, .int .i64 p.marks, .int .i64 p.ahead, .int .i64 p.tickets, .int .i64 p.retries, .int .i64 p.step, .string (str s.all), .int .i64 (s.low : Nat), .int .i64 (s.fl : Nat), .slice a s.ws.length cap].toArray 71 (0, 0)) (by simp), hg.own (bs, .cells [.int .i64 a1, .int .i64 md].toArray 27 (0, 0)) (by simp), hg.own (b, .cells [.int .i64 t.kind, .int .i64 t.rule, .int .i64 t.fr, .int .i64 t.at', .int .i64 t.to, .int .i64 t.mode].toArray 29 (0, 0)) (by simp)⟩
  refine WA.passM 0 hS ?_
  refine WA.passM 1 hS ?_
  refine WA.passM 2 hS ?_
  refine WA.passM 4 hS ?_
  refine WA.passM 8 hS ?_
  refine WA.passM 9 hS ?_
  refine WA.passM 10 hS ?_
  refine WA.passM 11 hS ?_
  refine WA.passM 3 hS ?_
  refine WA.passM 5 hS ?_
  refine WA.passM 6 hS ?_
  refine WA.passM 7 hS ?_
  refine WA.passM 12 hS ?_
  refine WA.passM 13 hS ?_
  refine WA.only 14 ?_
  rw [hld]
  have hput2 := fun {w : World} (ho : Sl w (moved a n 8 cap) (cap - n) 8 ((s.ws.drop n).map CE.enc)) => rPut_spec w (moved a n 8 cap) (cap - n) (s.ws.drop n) a1 md t (p.bytes + 1) ho (by omega)
  simp only [Tok.enc] at hput2
  refine op_call (hput2 (hD2.sl (hg.front 3))) ?_
  rintro _ w (⟨hr2, a', cap', f', rfl, hO', hg2⟩ | ⟨hr2, rfl, hg2⟩)
  · replace hg := hg.call0 hg2
    simp only [List.cons_append, List.nil_append] at hg
    clear hg2 hS hput2
    refine ⟨_, rfl, ?_⟩
    refine WO.fr ?_
    rw [hr2]
    have hS : (fun w => w.heap[pm]? = some (.cells [.int .i64 p.bytes, .int .i64 p.trail, .int .i64 p.marks, .int .i64 p.ahead, .int .i64 p.tickets, .int .i64 p.retries, .int .i64 p.step, .string (str s.all), .int .i64 (s.low : Nat), .int .i64 (s.fl : Nat), .slice a s.ws.length cap].toArray 71 (0, 0)) ∧ w.heap[bs]? = some (.cells [.int .i64 a1, .int .i64 md].toArray 27 (0, 0)) ∧ w.heap[b]? = some (.cells [.int .i64 t.kind, .int .i64 t.rule, .int .i64 t.fr, .int .i64 t.at', .int .i64 t.to, .int .i64 t.mode].toArray 29 (0, 0))) w := ⟨hg.own (pm, .cells [.int .i64 p.bytes, .int .i64 p.trail, .int .i64 p.marks, .int .i64 p.ahead, .int .i64 p.tickets, .int .i64 p.retries, .int .i64 p.step, .string (str s.all), .int .i64 (s.low : Nat), .int .i64 (s.fl : Nat), .slice a s.ws.length cap].toArray 71 (0, 0)) (by simp), hg.own (bs, .cells [.int .i64 a1, .int .i64 md].toArray 27 (0, 0)) (by simp), hg.own (b, .cells [.int .i64 t.kind, .int .i64 t.rule, .int .i64 t.fr, .int .i64 t.at', .int .i64 t.to, .int .i64 t.mode].toArray 29 (0, 0)) (by simp)⟩
    refine WO.nilA hS ?_
    refine WA.passM 15 hS ?_
    refine WA.passM 16 hS ?_
    refine WA.passM 17 hS ?_
    refine WA.passM 18 hS ?_
    refine WA.passM 19 hS ?_
    refine WA.nil ?_
    clear hS s1 s2 s3 t1 t2
    repeat' (first
      | with_reducible refine QX.next ?_ | with_reducible refine WC.seq ?_ | with_reducible refine WC.region ?_ | with_reducible refine WC.block ?_ | with_reducible refine QX.bnorm ?_ | with_reducible refine QX.bret ?_ | with_reducible refine QX.ret ?_ | with_reducible refine QX.exit ?_ | with_reducible refine QX.bsame ?_ | with_reducible refine QX.bother rfl ?_
      | with_reducible refine WO.nil ?_ | with_reducible refine WC.skip ?_ | with_reducible refine WC.ret ?_ | with_reducible refine WC.exit ?_ | ((with_reducible refine WC.id ?_); first | refine WC.condT rfl ?_ | refine WC.condF rfl ?_)
      | ((with_reducible refine WQ.cid ?_); first | refine WQ.xG ?_ | refine WQ.pure ?_)
      | ((with_reducible refine WQ.gid ?_); first | refine WQ.on rfl ?_ | refine WQ.offN rfl rfl ?_)
      | ((with_reducible refine WO.cid ?_); first
        | refine WO.x ?_ | (refine op_alloc hg ?_; clear hg; intro b w hg; refine WO.fr ?_) | (refine op_boxA hg ?_; clear hg; intro b w hg; refine WO.fr ?_) | (refine op_box1 hg ?_; clear hg; intro b w hg; refine WO.fr ?_)
        | (refine op_store hg ?_; clear hg; intro w hg; refine WO.fr ?_; try simp only [List.set_cons_succ, List.set_cons_zero] at hg)
        | (refine op_storeA hg ?_; clear hg; intro w hg; refine WO.fr ?_; try simp only [over, List.take_zero, List.take_succ_cons, List.drop_zero, List.drop_succ_cons, List.nil_append, List.cons_append, List.append_nil, List.length_cons, List.length_nil, Nat.zero_add, Nat.reduceAdd, splice, cellsL] at hg)
        | (refine op_pure hg ?_; clear hg; intro w hg; refine WO.fr ?_) | (refine op_pureB hg ?_; clear hg; intro w hg c hc; cases c <;> refine WO.fr ?_))
      | ((with_reducible refine WO.gid ?_); first | refine WO.on rfl ?_ | refine WO.offN rfl rfl ?_))
    exact ret1 rfl ⟨_, rfl, ⟨a', cap', f', rfl, hO'.rd (fun r hr => by obtain ⟨x, _, rfl⟩ := List.mem_map.1 hr; rfl) (by simp) (by have := rput_room (e := ⟨a1, md, t⟩) hdl; omega)⟩, (((((hg.front 4).front 3).front 3).front 3).front 4).unpair.head⟩
  replace hg := hg.call00 hg2
  clear hg2 hS hput2
  refine ⟨_, rfl, ?_⟩
  refine WO.fr ?_
  rw [hr2]
  have hS : (fun w => w.heap[pm]? = some (.cells [.int .i64 p.bytes, .int .i64 p.trail, .int .i64 p.marks, .int .i64 p.ahead, .int .i64 p.tickets, .int .i64 p.retries, .int .i64 p.step, .string (str s.all), .int .i64 (s.low : Nat), .int .i64 (s.fl : Nat), .slice a s.ws.length cap].toArray 71 (0, 0)) ∧ w.heap[bs]? = some (.cells [.int .i64 a1, .int .i64 md].toArray 27 (0, 0)) ∧ w.heap[b]? = some (.cells [.int .i64 t.kind, .int .i64 t.rule, .int .i64 t.fr, .int .i64 t.at', .int .i64 t.to, .int .i64 t.mode].toArray 29 (0, 0))) w := ⟨hg.own (pm, .cells [.int .i64 p.bytes, .int .i64 p.trail, .int .i64 p.marks, .int .i64 p.ahead, .int .i64 p.tickets, .int .i64 p.retries, .int .i64 p.step, .string (str s.all), .int .i64 (s.low : Nat), .int .i64 (s.fl : Nat), .slice a s.ws.length cap].toArray 71 (0, 0)) (by simp), hg.own (bs, .cells [.int .i64 a1, .int .i64 md].toArray 27 (0, 0)) (by simp), hg.own (b, .cells [.int .i64 t.kind, .int .i64 t.rule, .int .i64 t.fr, .int .i64 t.at', .int .i64 t.to, .int .i64 t.mode].toArray 29 (0, 0)) (by simp)⟩
  refine WO.nilA hS ?_
  refine WA.passM 15 hS ?_
  refine WA.passM 16 hS ?_
  refine WA.passM 17 hS ?_
  refine WA.passM 18 hS ?_
  refine WA.passM 19 hS ?_
  refine WA.nil ?_
  clear hS s1 s2 s3 t1 t2
  repeat' (first
    | with_reducible refine QX.next ?_ | with_reducible refine WC.seq ?_ | with_reducible refine WC.region ?_ | with_reducible refine WC.block ?_ | with_reducible refine QX.bnorm ?_ | with_reducible refine QX.bret ?_ | with_reducible refine QX.ret ?_ | with_reducible refine QX.exit ?_ | with_reducible refine QX.bsame ?_ | with_reducible refine QX.bother rfl ?_
    | with_reducible refine WO.nil ?_ | with_reducible refine WC.skip ?_ | with_reducible refine WC.ret ?_ | with_reducible refine WC.exit ?_ | ((with_reducible refine WC.id ?_); first | refine WC.condT rfl ?_ | refine WC.condF rfl ?_)
    | ((with_reducible refine WQ.cid ?_); first | refine WQ.xG ?_ | refine WQ.pure ?_)
    | ((with_reducible refine WQ.gid ?_); first | refine WQ.on rfl ?_ | refine WQ.offN rfl rfl ?_)
    | ((with_reducible refine WO.cid ?_); first
      | refine WO.x ?_ | (refine op_alloc hg ?_; clear hg; intro b w hg; refine WO.fr ?_) | (refine op_boxA hg ?_; clear hg; intro b w hg; refine WO.fr ?_) | (refine op_box1 hg ?_; clear hg; intro b w hg; refine WO.fr ?_)
      | (refine op_store hg ?_; clear hg; intro w hg; refine WO.fr ?_; try simp only [List.set_cons_succ, List.set_cons_zero] at hg)
      | (refine op_storeA hg ?_; clear hg; intro w hg; refine WO.fr ?_; try simp only [over, List.take_zero, List.take_succ_cons, List.drop_zero, List.drop_succ_cons, List.nil_append, List.cons_append, List.append_nil, List.length_cons, List.length_nil, Nat.zero_add, Nat.reduceAdd, splice, cellsL] at hg)
      | (refine op_pure hg ?_; clear hg; intro w hg; refine WO.fr ?_) | (refine op_pureB hg ?_; clear hg; intro w hg c hc; cases c <;> refine WO.fr ?_))
    | ((with_reducible refine WO.gid ?_); first | refine WO.on rfl ?_ | refine WO.offN rfl rfl ?_))
  exact ret1 rfl ⟨_, rfl, ⟨_, _, fr, rfl, hD2⟩, ((((hg.front 1).front 1).front 3).front 3).unpair.head⟩
end
end Go.Proofs.Ytdjepfpmoeecaaa
