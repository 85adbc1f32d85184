/- history: Of, Len, Events, follow, Right, alive. -/
import Derived.Test.YtlomipcjkkjhiaaHsB
namespace Go.Proofs.Ytlomipcjkkjhiaa
open Go Go.RowKit
set_option maxRecDepth 10000
set_option linter.unusedSimpArgs false
set_option linter.unusedVariables false

theorem Of_spec {pl : Nat} {L : LogS} {h : Frag} {w0 : World} (c : Int) (hO : Owns w0 h) (hL : LogF pl L h) :
    Calls Try.prog 15 #[.pointer (some ⟨pl, 0, none⟩), .int .i64 c] w0 fun e w' => e = .returned (.tuple #[.int .i64 ((mget L.of c).getD 0), .bool (mget L.of c).isSome]) ∧ Goes w0 (keys h) [h] w' := by
  obtain ⟨_, fe, fd, _, rfl, @⟨ae, ad, ce, cd, bm, clock, es, _, _, he, hd, hm⟩⟩ := hL
  have hg := hO.goes.four
  have p1 : ∀ {w : World}, Goes w0 (keys ([(pl, .cells [.slice ae L.events.length ce, .slice ad L.deeds.length cd, .map (some bm)].toArray 55 (0, 0))] ++ (fe ++ (fd ++ [(bm, .map es clock)])))) [[(pl, .cells [.slice ae L.events.length ce, .slice ad L.deeds.length cd, .map (some bm)].toArray 55 (0, 0))], fe, fd, [(bm, .map es clock)]] w → Calls Try.prog 31 #[.pointer (some ⟨pl, 0, none⟩)] w _ := fun h => made_spec (heap_cell (h.own (pl, .cells [.slice ae L.events.length ce, .slice ad L.deeds.length cd, .map (some bm)].toArray 55 (0, 0)) (by simp)) rfl)
  refine enter Try.func15 rfl (by simp only [Try.ntmps15, List.length_cons, List.length_nil, Nat.reduceAdd, Nat.reduceSub, List.replicate_succ, List.replicate_zero, List.cons_append, List.nil_append]; exact rfl) ?_
  repeat' (first
    | with_reducible refine QX.next ?_ | with_reducible refine WC.seq ?_ | with_reducible refine WC.region ?_ | with_reducible refine WC.block ?_ | with_reducible refine QX.bnorm ?_ | with_reducible refine QX.bret ?_ | with_reducible refine QX.ret ?_ | with_reducible refine QX.exit ?_ | with_reducible refine QX.bsame ?_ | with_reducible refine QX.bother rfl ?_
    | with_reducible refine WO.nil ?_ | with_reducible refine WC.skip ?_ | with_reducible refine WC.ret ?_ | with_reducible refine WC.exit ?_ | ((with_reducible refine WC.id ?_); first | refine WC.condT rfl ?_ | refine WC.condF rfl ?_)
    | (refine WC.quietG hg ?_; clear hg) | ((with_reducible refine WQ.nilG ?_); intro w hg)
    | ((with_reducible refine WQ.cid ?_); first | refine WQ.xG ?_ | refine WQ.pure ?_)
    | ((with_reducible refine WQ.gid ?_); first | refine WQ.on rfl ?_ | refine WQ.offN rfl rfl ?_)
    | ((with_reducible refine WO.cid ?_); first
      | refine WO.x ?_ | (refine op_alloc hg ?_; clear hg; intro b w hg; refine WO.fr ?_) | (refine op_boxA hg ?_; clear hg; intro b w hg; refine WO.fr ?_) | (refine op_box1 hg ?_; clear hg; intro b w hg; refine WO.fr ?_)
      | (refine op_store hg ?_; clear hg; intro w hg; refine WO.fr ?_; try simp only [List.set_cons_succ, List.set_cons_zero] at hg)
      | (refine op_storeA hg ?_; clear hg; intro w hg; refine WO.fr ?_; try simp only [over, List.take_zero, List.take_succ_cons, List.drop_zero, List.drop_succ_cons, List.nil_append, List.cons_append, List.append_nil, List.length_cons, List.length_nil, Nat.zero_add, Nat.reduceAdd, splice, cellsL] at hg)
      | (refine op_pure hg ?_; clear hg; intro w hg; refine WO.fr ?_) | (refine op_pureB hg ?_; clear hg; intro w hg c hc; cases c <;> refine WO.fr ?_))
    | ((with_reducible refine WO.gid ?_); first | refine WO.on rfl ?_ | refine WO.offN rfl rfl ?_))
  refine WO.x ?_ (hx := x_lookupOk (hg.own (bm, .map es clock) (by simp)) hm)
  repeat' (first
    | with_reducible refine QX.next ?_ | with_reducible refine WC.seq ?_ | with_reducible refine WC.region ?_ | with_reducible refine WC.block ?_ | with_reducible refine QX.bnorm ?_ | with_reducible refine QX.bret ?_ | with_reducible refine QX.ret ?_ | with_reducible refine QX.exit ?_ | with_reducible refine QX.bsame ?_ | with_reducible refine QX.bother rfl ?_
    | with_reducible refine WO.nil ?_ | with_reducible refine WC.skip ?_ | with_reducible refine WC.ret ?_ | with_reducible refine WC.exit ?_ | ((with_reducible refine WC.id ?_); first | refine WC.condT rfl ?_ | refine WC.condF rfl ?_)
    | (refine WC.quietG hg ?_; clear hg) | ((with_reducible refine WQ.nilG ?_); intro w hg)
    | ((with_reducible refine WQ.cid ?_); first | refine WQ.xG ?_ | refine WQ.pure ?_)
    | ((with_reducible refine WQ.gid ?_); first | refine WQ.on rfl ?_ | refine WQ.offN rfl rfl ?_)
    | ((with_reducible refine WO.cid ?_); first
      | refine WO.x ?_ | (refine op_alloc hg ?_; clear hg; intro b w hg; refine WO.fr ?_) | (refine op_boxA hg ?_; clear hg; intro b w hg; refine WO.fr ?_) | (refine op_box1 hg ?_; clear hg; intro b w hg; refine WO.fr ?_)
      | (refine op_store hg ?_; clear hg; intro w hg; refine WO.fr ?_; try simp only [List.set_cons_succ, List.set_cons_zero] at hg)
      | (refine op_storeA hg ?_; clear hg; intro w hg; refine WO.fr ?_; try simp only [over, List.take_zero, List.take_succ_cons, List.drop_zero, List.drop_succ_cons, List.nil_append, List.cons_append, List.append_nil, List.length_cons, List.length_nil, Nat.zero_add, Nat.reduceAdd, splice, cellsL] at hg)
      | (refine op_pure hg ?_; clear hg; intro w hg; refine WO.fr ?_) | (refine op_pureB hg ?_; clear hg; intro w hg c hc; cases c <;> refine WO.fr ?_))
    | ((with_reducible refine WO.gid ?_); first | refine WO.on rfl ?_ | refine WO.offN rfl rfl ?_))
  exact ret2 rfl ⟨rfl, hg.sub (by simp)⟩
theorem Len_spec {pl : Nat} {L : LogS} {h : Frag} {w0 : World} (hO : Owns w0 h) (hL : LogF pl L h) :
    Calls Try.prog 17 #[.pointer (some ⟨pl, 0, none⟩)] w0 fun e w' => e = .returned (.int .i64 L.events.length) ∧ Goes w0 (keys h) [h] w' := by
  obtain ⟨_, fe, fd, _, rfl, @⟨ae, ad, ce, cd, bm, clock, es, _, _, he, hd, hm⟩⟩ := hL
  have hg := hO.goes.four
  refine enter Try.func17 rfl (by simp only [Try.ntmps17, List.length_cons, List.length_nil, Nat.reduceAdd, Nat.reduceSub, List.replicate_succ, List.replicate_zero, List.cons_append, List.nil_append]; exact rfl) ?_
  repeat' (first
    | with_reducible refine QX.next ?_ | with_reducible refine WC.seq ?_ | with_reducible refine WC.region ?_ | with_reducible refine WC.block ?_ | with_reducible refine QX.bnorm ?_ | with_reducible refine QX.bret ?_ | with_reducible refine QX.ret ?_ | with_reducible refine QX.exit ?_ | with_reducible refine QX.bsame ?_ | with_reducible refine QX.bother rfl ?_
    | with_reducible refine WO.nil ?_ | with_reducible refine WC.skip ?_ | with_reducible refine WC.ret ?_ | with_reducible refine WC.exit ?_ | ((with_reducible refine WC.id ?_); first | refine WC.condT rfl ?_ | refine WC.condF rfl ?_)
    | (refine WC.quietG hg ?_; clear hg) | ((with_reducible refine WQ.nilG ?_); intro w hg)
    | ((with_reducible refine WQ.cid ?_); first | refine WQ.xG ?_ | refine WQ.pure ?_)
    | ((with_reducible refine WQ.gid ?_); first | refine WQ.on rfl ?_ | refine WQ.offN rfl rfl ?_)
    | ((with_reducible refine WO.cid ?_); first
      | refine WO.x ?_ | (refine op_alloc hg ?_; clear hg; intro b w hg; refine WO.fr ?_) | (refine op_boxA hg ?_; clear hg; intro b w hg; refine WO.fr ?_) | (refine op_box1 hg ?_; clear hg; intro b w hg; refine WO.fr ?_)
      | (refine op_store hg ?_; clear hg; intro w hg; refine WO.fr ?_; try simp only [List.set_cons_succ, List.set_cons_zero] at hg)
      | (refine op_storeA hg ?_; clear hg; intro w hg; refine WO.fr ?_; try simp only [over, List.take_zero, List.take_succ_cons, List.drop_zero, List.drop_succ_cons, List.nil_append, List.cons_append, List.append_nil, List.length_cons, List.length_nil, Nat.zero_add, Nat.reduceAdd, splice, cellsL] at hg)
      | (refine op_pure hg ?_; clear hg; intro w hg; refine WO.fr ?_) | (refine op_pureB hg ?_; clear hg; intro w hg c hc; cases c <;> refine WO.fr ?_))
    | ((with_reducible refine WO.gid ?_); first | refine WO.on rfl ?_ | refine WO.offN rfl rfl ?_))
  exact ret1 rfl ⟨rfl, hg.sub (by simp)⟩
theorem evs_src {w : World} {b : Option Addr} {c : Nat} {its : List Ev} (h : Sl w b c 14 (its.map Ev.enc)) : Src Try.prog 14 28 (.slice b its.length c) its.length (its.map Ev.enc).flatten w := by
  have := h.src (P := Try.prog) (tx := 28) Und.out (by simp [Ev.enc]) (by simp [Ev.enc, Value.oneCell'])
  simpa using this
theorem Events_spec {pl : Nat} {L : LogS} {h : Frag} {w0 : World} (hO : Owns w0 h) (hL : LogF pl L h) (hn : L.events.length ≤ 1000) :
    Calls Try.prog 19 #[.pointer (some ⟨pl, 0, none⟩)] w0 fun e w' => ∃ a cap f, e = .returned (.slice a L.events.length cap) ∧ Own 58 14 a L.events.length cap (L.events.map Ev.enc).flatten f ∧ Goes w0 (keys h) [f, h] w' := by
  obtain ⟨_, fe, fd, _, rfl, @⟨ae, ad, ce, cd, bm, clock, es, _, _, he, hd, hm⟩⟩ := hL
  have hg := hO.goes.four
  refine enter Try.func19 rfl (by simp only [Try.ntmps19, List.length_cons, List.length_nil, Nat.reduceAdd, Nat.reduceSub, List.replicate_succ, List.replicate_zero, List.cons_append, List.nil_append]; exact rfl) ?_
  repeat' (first
    | with_reducible refine QX.next ?_ | with_reducible refine WC.seq ?_ | with_reducible refine WC.region ?_ | with_reducible refine WC.block ?_ | with_reducible refine QX.bnorm ?_ | with_reducible refine QX.bret ?_ | with_reducible refine QX.ret ?_ | with_reducible refine QX.exit ?_ | with_reducible refine QX.bsame ?_ | with_reducible refine QX.bother rfl ?_
    | with_reducible refine WO.nil ?_ | with_reducible refine WC.skip ?_ | with_reducible refine WC.ret ?_ | with_reducible refine WC.exit ?_ | ((with_reducible refine WC.id ?_); first | refine WC.condT rfl ?_ | refine WC.condF rfl ?_)
    | (refine WC.quietG hg ?_; clear hg) | ((with_reducible refine WQ.nilG ?_); intro w hg)
    | ((with_reducible refine WQ.cid ?_); first | refine WQ.xG ?_ | refine WQ.pure ?_)
    | ((with_reducible refine WQ.gid ?_); first | refine WQ.on rfl ?_ | refine WQ.offN rfl rfl ?_)
    | ((with_reducible refine WO.cid ?_); first
      | refine WO.x ?_ | (refine op_alloc hg ?_; clear hg; intro b w hg; refine WO.fr ?_) | (refine op_boxA hg ?_; clear hg; intro b w hg; refine WO.fr ?_) | (refine op_box1 hg ?_; clear hg; intro b w hg; refine WO.fr ?_)
      | (refine op_store hg ?_; clear hg; intro w hg; refine WO.fr ?_; try simp only [List.set_cons_succ, List.set_cons_zero] at hg)
      | (refine op_storeA hg ?_; clear hg; intro w hg; refine WO.fr ?_; try simp only [over, List.take_zero, List.take_succ_cons, List.drop_zero, List.drop_succ_cons, List.nil_append, List.cons_append, List.append_nil, List.length_cons, List.length_nil, Nat.zero_add, Nat.reduceAdd, splice, cellsL] at hg)
      | (refine op_pure hg ?_; clear hg; intro w hg; refine WO.fr ?_) | (refine op_pureB hg ?_; clear hg; intro w hg c hc; cases c <;> refine WO.fr ?_))
    | ((with_reducible refine WO.gid ?_); first | refine WO.on rfl ?_ | refine WO.offN rfl rfl ?_))
  refine op_buildNil hg ?_
  clear hg
  intro b w hO' hg
  refine WO.fr ?_
  repeat' (first
    | with_reducible refine QX.next ?_ | with_reducible refine WC.seq ?_ | with_reducible refine WC.region ?_ | with_reducible refine WC.block ?_ | with_reducible refine QX.bnorm ?_ | with_reducible refine QX.bret ?_ | with_reducible refine QX.ret ?_ | with_reducible refine QX.exit ?_ | with_reducible refine QX.bsame ?_ | with_reducible refine QX.bother rfl ?_
    | with_reducible refine WO.nil ?_ | with_reducible refine WC.skip ?_ | with_reducible refine WC.ret ?_ | with_reducible refine WC.exit ?_ | ((with_reducible refine WC.id ?_); first | refine WC.condT rfl ?_ | refine WC.condF rfl ?_)
    | (refine WC.quietG hg ?_; clear hg) | ((with_reducible refine WQ.nilG ?_); intro w hg)
    | ((with_reducible refine WQ.cid ?_); first | refine WQ.xG ?_ | refine WQ.pure ?_)
    | ((with_reducible refine WQ.gid ?_); first | refine WQ.on rfl ?_ | refine WQ.offN rfl rfl ?_)
    | ((with_reducible refine WO.cid ?_); first
      | refine WO.x ?_ | (refine op_alloc hg ?_; clear hg; intro b w hg; refine WO.fr ?_) | (refine op_boxA hg ?_; clear hg; intro b w hg; refine WO.fr ?_) | (refine op_box1 hg ?_; clear hg; intro b w hg; refine WO.fr ?_)
      | (refine op_store hg ?_; clear hg; intro w hg; refine WO.fr ?_; try simp only [List.set_cons_succ, List.set_cons_zero] at hg)
      | (refine op_storeA hg ?_; clear hg; intro w hg; refine WO.fr ?_; try simp only [over, List.take_zero, List.take_succ_cons, List.drop_zero, List.drop_succ_cons, List.nil_append, List.cons_append, List.append_nil, List.length_cons, List.length_nil, Nat.zero_add, Nat.reduceAdd, splice, cellsL] at hg)
      | (refine op_pure hg ?_; clear hg; intro w hg; refine WO.fr ?_) | (refine op_pureB hg ?_; clear hg; intro w hg c hc; cases c <;> refine WO.fr ?_))
    | ((with_reducible refine WO.gid ?_); first | refine WO.on rfl ?_ | refine WO.offN rfl rfl ?_))
  refine op_append hg hO' (evs_src (he.sl (hg.front 2) (by simp [Ev.enc]) (by simp) (by omega))) ?_
  clear hg hO'
  intro a1 cap1 f1 w hO' hg
  refine WO.fr ?_
  repeat' (first
    | with_reducible refine QX.next ?_ | with_reducible refine WC.seq ?_ | with_reducible refine WC.region ?_ | with_reducible refine WC.block ?_ | with_reducible refine QX.bnorm ?_ | with_reducible refine QX.bret ?_ | with_reducible refine QX.ret ?_ | with_reducible refine QX.exit ?_ | with_reducible refine QX.bsame ?_ | with_reducible refine QX.bother rfl ?_
    | with_reducible refine WO.nil ?_ | with_reducible refine WC.skip ?_ | with_reducible refine WC.ret ?_ | with_reducible refine WC.exit ?_ | ((with_reducible refine WC.id ?_); first | refine WC.condT rfl ?_ | refine WC.condF rfl ?_)
    | (refine WC.quietG hg ?_; clear hg) | ((with_reducible refine WQ.nilG ?_); intro w hg)
    | ((with_reducible refine WQ.cid ?_); first | refine WQ.xG ?_ | refine WQ.pure ?_)
    | ((with_reducible refine WQ.gid ?_); first | refine WQ.on rfl ?_ | refine WQ.offN rfl rfl ?_)
    | ((with_reducible refine WO.cid ?_); first
      | refine WO.x ?_ | (refine op_alloc hg ?_; clear hg; intro b w hg; refine WO.fr ?_) | (refine op_boxA hg ?_; clear hg; intro b w hg; refine WO.fr ?_) | (refine op_box1 hg ?_; clear hg; intro b w hg; refine WO.fr ?_)
      | (refine op_store hg ?_; clear hg; intro w hg; refine WO.fr ?_; try simp only [List.set_cons_succ, List.set_cons_zero] at hg)
      | (refine op_storeA hg ?_; clear hg; intro w hg; refine WO.fr ?_; try simp only [over, List.take_zero, List.take_succ_cons, List.drop_zero, List.drop_succ_cons, List.nil_append, List.cons_append, List.append_nil, List.length_cons, List.length_nil, Nat.zero_add, Nat.reduceAdd, splice, cellsL] at hg)
      | (refine op_pure hg ?_; clear hg; intro w hg; refine WO.fr ?_) | (refine op_pureB hg ?_; clear hg; intro w hg c hc; cases c <;> refine WO.fr ?_))
    | ((with_reducible refine WO.gid ?_); first | refine WO.on rfl ?_ | refine WO.offN rfl rfl ?_))
  rw [Nat.zero_add] at hO'
  refine ret1 rfl ⟨a1, cap1, f1, by simp [gt], by simpa using hO', hg.perm (by simp)⟩

theorem eqL_ev (x y : Ev) : eqL [.int, .int, .int, .int, .int, .str, .int, .int, .int, .int, .int, .int, .int, .int] x.enc y.enc = some (decide (x = y)) := by
  obtain ⟨a1, a2, a3, ⟨a4, a5, a6⟩, ⟨b1, b2, b3, b4, b5, b6, b7, b8⟩⟩ := x
  obtain ⟨c1, c2, c3, ⟨c4, c5, c6⟩, ⟨d1, d2, d3, d4, d5, d6, d7, d8⟩⟩ := y
  have hs : (a6 == c6) = decide (a6 = c6) := by
    rw [Bool.eq_iff_iff, MapKept.bytes_beq, decide_eq_true_iff]
  simp [eqL, eqC, Ev.enc, Bool.decide_and, hs]
  simp only [Bool.and_assoc]
  rfl
/-- Where an event leads, if the log takes it. -/
def LogS.take (L : LogS) (e : Ev) : LogS :=
  if e.kind = 1 then (match mget L.of e.client with | none => L.inv e.client e.op | some _ => L)
  else if e.kind = 2 then (match L.at e.id with | some d => if d.how = 0 then L.com e.id.toNat d e.res else L | none => L)
  else if e.kind = 3 then (match L.at e.id with | some d => if e.res = d.want then L.res e.id.toNat d e.res else L | none => L)
  else L
def LogS.took (L : LogS) (e : Ev) : Bool := match (L.take e).events[L.events.length]? with
  | some x => decide (x = e)
  | none => false

set_option maxHeartbeats 4000000 in
theorem follow_spec {pl : Nat} {L : LogS} {h : Frag} {w0 : World} (e : Ev) (hO : Owns w0 h) (hL : LogF pl L h) (hn : L.events.length ≤ 999 ∧ L.deeds.length ≤ 999) :
    Calls Try.prog 35 #[.pointer (some ⟨pl, 0, none⟩), .agg e.enc.toArray] w0 fun x w' => ∃ h', x = .returned (.bool (L.took e)) ∧ LogF pl (L.take e) h' ∧ Goes w0 (keys h) [h'] w' := by
  have hL0 := hL
  obtain ⟨_, fe, fd, _, hh, @⟨ae, ad, ce, cd, bm, clock, es, _, _, he, hd, hm⟩⟩ := hL
  have hg := hO.goes
  rw [hh] at hg
  replace hg := hg.four
  simp only [Ev.enc]
  by_cases h1 : e.kind = 1
  · refine enter Try.func35 rfl (by simp only [Try.ntmps35, List.length_cons, List.length_nil, Nat.reduceAdd, Nat.reduceSub, List.replicate_succ, List.replicate_zero, List.cons_append, List.nil_append]; exact rfl) ?_
    repeat' (first
      | with_reducible refine QX.next ?_ | with_reducible refine WC.seq ?_ | with_reducible refine WC.region ?_ | with_reducible refine WC.block ?_ | with_reducible refine QX.bnorm ?_ | with_reducible refine QX.bret ?_ | with_reducible refine QX.ret ?_ | with_reducible refine QX.exit ?_ | with_reducible refine QX.bsame ?_ | with_reducible refine QX.bother rfl ?_
      | with_reducible refine WO.nil ?_ | with_reducible refine WC.skip ?_ | with_reducible refine WC.ret ?_ | with_reducible refine WC.exit ?_ | ((with_reducible refine WC.id ?_); first | refine WC.condT rfl ?_ | refine WC.condF rfl ?_)
      | (refine WC.quietG hg ?_; clear hg) | ((with_reducible refine WQ.nilG ?_); intro w hg)
      | ((with_reducible refine WQ.cid ?_); first | refine WQ.xG ?_ | refine WQ.pure ?_)
      | ((with_reducible refine WQ.gid ?_); first | refine WQ.on rfl ?_ | refine WQ.offN rfl rfl ?_)
      | ((with_reducible refine WO.cid ?_); first
        | refine WO.x ?_ | (refine op_alloc hg ?_; clear hg; intro b w hg; refine WO.fr ?_) | (refine op_boxA hg ?_; clear hg; intro b w hg; refine WO.fr ?_) | (refine op_box1 hg ?_; clear hg; intro b w hg; refine WO.fr ?_)
        | (refine op_store hg ?_; clear hg; intro w hg; refine WO.fr ?_; try simp only [List.set_cons_succ, List.set_cons_zero] at hg)
        | (refine op_storeA hg ?_; clear hg; intro w hg; refine WO.fr ?_; try simp only [over, List.take_zero, List.take_succ_cons, List.drop_zero, List.drop_succ_cons, List.nil_append, List.cons_append, List.append_nil, List.length_cons, List.length_nil, Nat.zero_add, Nat.reduceAdd, splice, cellsL] at hg)
        | (refine op_pure hg ?_; clear hg; intro w hg; refine WO.fr ?_) | (refine op_pureB hg ?_; clear hg; intro w hg c hc; cases c <;> refine WO.fr ?_))
      | ((with_reducible refine WO.gid ?_); first | refine WO.on rfl ?_ | refine WO.offN rfl rfl ?_))
    replace hg := ((((hg.front 4).front 4).front 4).front 4).unfour
    rw [← hh] at hg
    refine op_call (Invoke_spec e.client e.op hg.owns1 hL0 hn) ?_
    rintro _ w2 ⟨h', hg2, ⟨hmg, hL', rfl⟩ | ⟨hmg, hL', rfl⟩⟩
    all_goals
      replace hg := hg.callF hg2
      clear hg2
      refine ⟨_, rfl, ?_⟩
      refine WO.fr ?_
    · obtain ⟨_, fe2, fd2, _, rfl, @⟨ae2, ad2, ce2, cd2, bm2, clock2, es2, _, _, he2, hd2, hm2⟩⟩ := hL'
      replace hg := hg.four
      have hlen : (L.inv e.client e.op).events.length = L.events.length + 1 := by simp [LogS.inv]
      have hx : (L.inv e.client e.op).events[L.events.length]? = some ⟨1, L.deeds.length, e.client, e.op, Res.none⟩ := by simp [LogS.inv]
      have htk : L.take e = L.inv e.client e.op := by simp [LogS.take, h1, hmg]
      have htook : L.took e = decide (⟨1, L.deeds.length, e.client, e.op, Res.none⟩ = e) := by simp only [LogS.took, htk, hx]
      obtain ⟨g2, A2, B2, rfl, rfl, hA2, _⟩ := he2.split Ev.enc_len hx
      have k14 : ((A2 ++ (Ev.enc ⟨1, L.deeds.length, e.client, e.op, Res.none⟩ ++ B2)).drop (L.events.length * 14)).take 14 = [.int .i64 1, .int .i64 L.deeds.length, .int .i64 e.client, .int .i64 e.op.kind, .int .i64 e.op.n, .string e.op.data, .int .i64 0, .int .i64 0, .int .i64 0, .int .i64 0, .int .i64 0, .int .i64 0, .int .i64 0, .int .i64 0] := mid_rows hA2 rfl
      have e1 : eqL [.int, .int, .int, .int, .int, .str, .int, .int, .int, .int, .int, .int, .int, .int] [.int .i64 1, .int .i64 L.deeds.length, .int .i64 e.client, .int .i64 e.op.kind, .int .i64 e.op.n, .string e.op.data, .int .i64 0, .int .i64 0, .int .i64 0, .int .i64 0, .int .i64 0, .int .i64 0, .int .i64 0, .int .i64 0] [.int .i64 e.kind, .int .i64 e.id, .int .i64 e.client, .int .i64 e.op.kind, .int .i64 e.op.n, .string e.op.data, .int .i64 e.res.e, .int .i64 e.res.n, .int .i64 e.res.k1, .int .i64 e.res.k2, .int .i64 e.res.k3, .int .i64 e.res.k4, .int .i64 e.res.k5, .int .i64 e.res.k6] = some (decide (⟨1, L.deeds.length, e.client, e.op, Res.none⟩ = e)) := eqL_ev ⟨1, L.deeds.length, e.client, e.op, Res.none⟩ e
      repeat' (first
        | with_reducible refine QX.next ?_ | with_reducible refine WC.seq ?_ | with_reducible refine WC.region ?_ | with_reducible refine WC.block ?_ | with_reducible refine QX.bnorm ?_ | with_reducible refine QX.bret ?_ | with_reducible refine QX.ret ?_ | with_reducible refine QX.exit ?_ | with_reducible refine QX.bsame ?_ | with_reducible refine QX.bother rfl ?_
        | with_reducible refine WO.nil ?_ | with_reducible refine WC.skip ?_ | with_reducible refine WC.ret ?_ | with_reducible refine WC.exit ?_ | ((with_reducible refine WC.id ?_); first | refine WC.condT rfl ?_ | refine WC.condF rfl ?_)
        | (refine WC.quietG hg ?_; clear hg) | ((with_reducible refine WQ.nilG ?_); intro w hg)
        | ((with_reducible refine WQ.cid ?_); first | refine WQ.xG ?_ | refine WQ.pure ?_)
        | ((with_reducible refine WQ.gid ?_); first | refine WQ.on rfl ?_ | refine WQ.offN rfl rfl ?_)
        | ((with_reducible refine WO.cid ?_); first
          | refine WO.x ?_ | (refine op_alloc hg ?_; clear hg; intro b w hg; refine WO.fr ?_) | (refine op_boxA hg ?_; clear hg; intro b w hg; refine WO.fr ?_) | (refine op_box1 hg ?_; clear hg; intro b w hg; refine WO.fr ?_)
          | (refine op_store hg ?_; clear hg; intro w hg; refine WO.fr ?_; try simp only [List.set_cons_succ, List.set_cons_zero] at hg)
          | (refine op_storeA hg ?_; clear hg; intro w hg; refine WO.fr ?_; try simp only [over, List.take_zero, List.take_succ_cons, List.drop_zero, List.drop_succ_cons, List.nil_append, List.cons_append, List.append_nil, List.length_cons, List.length_nil, Nat.zero_add, Nat.reduceAdd, splice, cellsL] at hg)
          | (refine op_pure hg ?_; clear hg; intro w hg; refine WO.fr ?_) | (refine op_pureB hg ?_; clear hg; intro w hg c hc; cases c <;> refine WO.fr ?_))
        | ((with_reducible refine WO.gid ?_); first | refine WO.on rfl ?_ | refine WO.offN rfl rfl ?_))
      refine ret1 rfl ?_
      rw [htk]
      exact ⟨_, by simp [gt, htook], ⟨_, _, _, _, rfl, .mk (bm := bm2) he2 hd2 hm2⟩, hg.unfour.sub (by simp)⟩
    · obtain ⟨y, hy⟩ := Option.isSome_iff_exists.1 hmg
      obtain ⟨_, fe2, fd2, _, rfl, @⟨ae2, ad2, ce2, cd2, bm2, clock2, es2, _, _, he2, hd2, hm2⟩⟩ := hL'
      replace hg := hg.four
      repeat' (first
        | with_reducible refine QX.next ?_ | with_reducible refine WC.seq ?_ | with_reducible refine WC.region ?_ | with_reducible refine WC.block ?_ | with_reducible refine QX.bnorm ?_ | with_reducible refine QX.bret ?_ | with_reducible refine QX.ret ?_ | with_reducible refine QX.exit ?_ | with_reducible refine QX.bsame ?_ | with_reducible refine QX.bother rfl ?_
        | with_reducible refine WO.nil ?_ | with_reducible refine WC.skip ?_ | with_reducible refine WC.ret ?_ | with_reducible refine WC.exit ?_ | ((with_reducible refine WC.id ?_); first | refine WC.condT rfl ?_ | refine WC.condF rfl ?_)
        | (refine WC.quietG hg ?_; clear hg) | ((with_reducible refine WQ.nilG ?_); intro w hg)
        | ((with_reducible refine WQ.cid ?_); first | refine WQ.xG ?_ | refine WQ.pure ?_)
        | ((with_reducible refine WQ.gid ?_); first | refine WQ.on rfl ?_ | refine WQ.offN rfl rfl ?_)
        | ((with_reducible refine WO.cid ?_); first
          | refine WO.x ?_ | (refine op_alloc hg ?_; clear hg; intro b w hg; refine WO.fr ?_) | (refine op_boxA hg ?_; clear hg; intro b w hg; refine WO.fr ?_) | (refine op_box1 hg ?_; clear hg; intro b w hg; refine WO.fr ?_)
          | (refine op_store hg ?_; clear hg; intro w hg; refine WO.fr ?_; try simp only [List.set_cons_succ, List.set_cons_zero] at hg)
          | (refine op_storeA hg ?_; clear hg; intro w hg; refine WO.fr ?_; try simp only [over, List.take_zero, List.take_succ_cons, List.drop_zero, List.drop_succ_cons, List.nil_append, List.cons_append, List.append_nil, List.length_cons, List.length_nil, Nat.zero_add, Nat.reduceAdd, splice, cellsL] at hg)
          | (refine op_pure hg ?_; clear hg; intro w hg; refine WO.fr ?_) | (refine op_pureB hg ?_; clear hg; intro w hg c hc; cases c <;> refine WO.fr ?_))
        | ((with_reducible refine WO.gid ?_); first | refine WO.on rfl ?_ | refine WO.offN rfl rfl ?_))
      have htk : L.take e = L := by simp [LogS.take, h1, hy]
      refine ret1 rfl ?_
      rw [htk]
      exact ⟨_, by simp [gt, LogS.took, htk], ⟨_, _, _, _, rfl, .mk (bm := bm2) he2 hd2 hm2⟩, hg.unfour.sub (by simp)⟩
  by_cases h2 : e.kind = 2
  · refine enter Try.func35 rfl (by simp only [Try.ntmps35, List.length_cons, List.length_nil, Nat.reduceAdd, Nat.reduceSub, List.replicate_succ, List.replicate_zero, List.cons_append, List.nil_append]; exact rfl) ?_
    repeat' (first
      | with_reducible refine QX.next ?_ | with_reducible refine WC.seq ?_ | with_reducible refine WC.region ?_ | with_reducible refine WC.block ?_ | with_reducible refine QX.bnorm ?_ | with_reducible refine QX.bret ?_ | with_reducible refine QX.ret ?_ | with_reducible refine QX.exit ?_ | with_reducible refine QX.bsame ?_ | with_reducible refine QX.bother rfl ?_
      | with_reducible refine WO.nil ?_ | with_reducible refine WC.skip ?_ | with_reducible refine WC.ret ?_ | with_reducible refine WC.exit ?_ | ((with_reducible refine WC.id ?_); first | refine WC.condT rfl ?_ | refine WC.condF rfl ?_)
      | (refine WC.quietG hg ?_; clear hg) | ((with_reducible refine WQ.nilG ?_); intro w hg)
      | ((with_reducible refine WQ.cid ?_); first | refine WQ.xG ?_ | refine WQ.pure ?_)
      | ((with_reducible refine WQ.gid ?_); first | refine WQ.on rfl ?_ | refine WQ.offN rfl rfl ?_)
      | ((with_reducible refine WO.cid ?_); first
        | refine WO.x ?_ | (refine op_alloc hg ?_; clear hg; intro b w hg; refine WO.fr ?_) | (refine op_boxA hg ?_; clear hg; intro b w hg; refine WO.fr ?_) | (refine op_box1 hg ?_; clear hg; intro b w hg; refine WO.fr ?_)
        | (refine op_store hg ?_; clear hg; intro w hg; refine WO.fr ?_; try simp only [List.set_cons_succ, List.set_cons_zero] at hg)
        | (refine op_storeA hg ?_; clear hg; intro w hg; refine WO.fr ?_; try simp only [over, List.take_zero, List.take_succ_cons, List.drop_zero, List.drop_succ_cons, List.nil_append, List.cons_append, List.append_nil, List.length_cons, List.length_nil, Nat.zero_add, Nat.reduceAdd, splice, cellsL] at hg)
        | (refine op_pure hg ?_; clear hg; intro w hg; refine WO.fr ?_) | (refine op_pureB hg ?_; clear hg; intro w hg c hc; cases c <;> refine WO.fr ?_))
      | ((with_reducible refine WO.gid ?_); first | refine WO.on rfl ?_ | refine WO.offN rfl rfl ?_))
    replace hg := ((((hg.front 4).front 4).front 4).front 4).unfour
    rw [← hh] at hg
    cases hat : L.at e.id with
    | none =>
      refine op_call (Commit_no e.id e.res hg.owns1 hL0 hn (by simp [hat])) ?_
      rintro _ w2 ⟨rfl, hg2⟩
      replace hg := hg.callF hg2
      clear hg2
      refine ⟨_, rfl, ?_⟩
      refine WO.fr ?_
      obtain ⟨_, fe2, fd2, _, rfl, @⟨ae2, ad2, ce2, cd2, bm2, clock2, es2, _, _, he2, hd2, hm2⟩⟩ := hL0
      replace hg := hg.four
      repeat' (first
        | with_reducible refine QX.next ?_ | with_reducible refine WC.seq ?_ | with_reducible refine WC.region ?_ | with_reducible refine WC.block ?_ | with_reducible refine QX.bnorm ?_ | with_reducible refine QX.bret ?_ | with_reducible refine QX.ret ?_ | with_reducible refine QX.exit ?_ | with_reducible refine QX.bsame ?_ | with_reducible refine QX.bother rfl ?_
        | with_reducible refine WO.nil ?_ | with_reducible refine WC.skip ?_ | with_reducible refine WC.ret ?_ | with_reducible refine WC.exit ?_ | ((with_reducible refine WC.id ?_); first | refine WC.condT rfl ?_ | refine WC.condF rfl ?_)
        | (refine WC.quietG hg ?_; clear hg) | ((with_reducible refine WQ.nilG ?_); intro w hg)
        | ((with_reducible refine WQ.cid ?_); first | refine WQ.xG ?_ | refine WQ.pure ?_)
        | ((with_reducible refine WQ.gid ?_); first | refine WQ.on rfl ?_ | refine WQ.offN rfl rfl ?_)
        | ((with_reducible refine WO.cid ?_); first
          | refine WO.x ?_ | (refine op_alloc hg ?_; clear hg; intro b w hg; refine WO.fr ?_) | (refine op_boxA hg ?_; clear hg; intro b w hg; refine WO.fr ?_) | (refine op_box1 hg ?_; clear hg; intro b w hg; refine WO.fr ?_)
          | (refine op_store hg ?_; clear hg; intro w hg; refine WO.fr ?_; try simp only [List.set_cons_succ, List.set_cons_zero] at hg)
          | (refine op_storeA hg ?_; clear hg; intro w hg; refine WO.fr ?_; try simp only [over, List.take_zero, List.take_succ_cons, List.drop_zero, List.drop_succ_cons, List.nil_append, List.cons_append, List.append_nil, List.length_cons, List.length_nil, Nat.zero_add, Nat.reduceAdd, splice, cellsL] at hg)
          | (refine op_pure hg ?_; clear hg; intro w hg; refine WO.fr ?_) | (refine op_pureB hg ?_; clear hg; intro w hg c hc; cases c <;> refine WO.fr ?_))
        | ((with_reducible refine WO.gid ?_); first | refine WO.on rfl ?_ | refine WO.offN rfl rfl ?_))
      have htk : L.take e = L := by simp [LogS.take, h2, hat]
      refine ret1 rfl ?_
      rw [htk]
      exact ⟨_, by simp [gt, LogS.took, htk], ⟨_, _, _, _, rfl, .mk (bm := bm2) he2 hd2 hm2⟩, hg.unfour.sub (by simp)⟩
    | some d =>
      obtain ⟨i, hi, hdi, hd2⟩ := LogS.at_some hat
      have hat' := hat
      rw [hi] at hat'
      rw [hi]
      by_cases hh0 : d.how = 0
      · refine op_call (Commit_yes i d e.res hg.owns1 hL0 hn hdi hh0) ?_
        rintro _ w2 ⟨h', rfl, hL', hg2⟩
        replace hg := hg.callF hg2
        clear hg2
        refine ⟨_, rfl, ?_⟩
        refine WO.fr ?_
        obtain ⟨_, fe2, fd2, _, rfl, @⟨ae2, ad2, ce2, cd2, bm2, clock2, es2, _, _, he2, hd2, hm2⟩⟩ := hL'
        replace hg := hg.four
        have hlen : (L.com i d e.res).events.length = L.events.length + 1 := by simp [LogS.com]
        have hx : (L.com i d e.res).events[L.events.length]? = some ⟨2, i, d.client, d.op, e.res⟩ := by simp [LogS.com]
        have htk : L.take e = L.com i d e.res := by simp [LogS.take, h2, hi, hat', hh0]
        have htook : L.took e = decide (⟨2, i, d.client, d.op, e.res⟩ = e) := by simp only [LogS.took, htk, hx]
        obtain ⟨g2, A2, B2, rfl, rfl, hA2, _⟩ := he2.split Ev.enc_len hx
        have k14 : ((A2 ++ (Ev.enc ⟨2, i, d.client, d.op, e.res⟩ ++ B2)).drop (L.events.length * 14)).take 14 = [.int .i64 2, .int .i64 i, .int .i64 d.client, .int .i64 d.op.kind, .int .i64 d.op.n, .string d.op.data, .int .i64 e.res.e, .int .i64 e.res.n, .int .i64 e.res.k1, .int .i64 e.res.k2, .int .i64 e.res.k3, .int .i64 e.res.k4, .int .i64 e.res.k5, .int .i64 e.res.k6] := mid_rows hA2 rfl
        have e1 : eqL [.int, .int, .int, .int, .int, .str, .int, .int, .int, .int, .int, .int, .int, .int] [.int .i64 2, .int .i64 i, .int .i64 d.client, .int .i64 d.op.kind, .int .i64 d.op.n, .string d.op.data, .int .i64 e.res.e, .int .i64 e.res.n, .int .i64 e.res.k1, .int .i64 e.res.k2, .int .i64 e.res.k3, .int .i64 e.res.k4, .int .i64 e.res.k5, .int .i64 e.res.k6] [.int .i64 e.kind, .int .i64 e.id, .int .i64 e.client, .int .i64 e.op.kind, .int .i64 e.op.n, .string e.op.data, .int .i64 e.res.e, .int .i64 e.res.n, .int .i64 e.res.k1, .int .i64 e.res.k2, .int .i64 e.res.k3, .int .i64 e.res.k4, .int .i64 e.res.k5, .int .i64 e.res.k6] = some (decide (⟨2, i, d.client, d.op, e.res⟩ = e)) := eqL_ev ⟨2, i, d.client, d.op, e.res⟩ e
        repeat' (first
          | with_reducible refine QX.next ?_ | with_reducible refine WC.seq ?_ | with_reducible refine WC.region ?_ | with_reducible refine WC.block ?_ | with_reducible refine QX.bnorm ?_ | with_reducible refine QX.bret ?_ | with_reducible refine QX.ret ?_ | with_reducible refine QX.exit ?_ | with_reducible refine QX.bsame ?_ | with_reducible refine QX.bother rfl ?_
          | with_reducible refine WO.nil ?_ | with_reducible refine WC.skip ?_ | with_reducible refine WC.ret ?_ | with_reducible refine WC.exit ?_ | ((with_reducible refine WC.id ?_); first | refine WC.condT rfl ?_ | refine WC.condF rfl ?_)
          | (refine WC.quietG hg ?_; clear hg) | ((with_reducible refine WQ.nilG ?_); intro w hg)
          | ((with_reducible refine WQ.cid ?_); first | refine WQ.xG ?_ | refine WQ.pure ?_)
          | ((with_reducible refine WQ.gid ?_); first | refine WQ.on rfl ?_ | refine WQ.offN rfl rfl ?_)
          | ((with_reducible refine WO.cid ?_); first
            | refine WO.x ?_ | (refine op_alloc hg ?_; clear hg; intro b w hg; refine WO.fr ?_) | (refine op_boxA hg ?_; clear hg; intro b w hg; refine WO.fr ?_) | (refine op_box1 hg ?_; clear hg; intro b w hg; refine WO.fr ?_)
            | (refine op_store hg ?_; clear hg; intro w hg; refine WO.fr ?_; try simp only [List.set_cons_succ, List.set_cons_zero] at hg)
            | (refine op_storeA hg ?_; clear hg; intro w hg; refine WO.fr ?_; try simp only [over, List.take_zero, List.take_succ_cons, List.drop_zero, List.drop_succ_cons, List.nil_append, List.cons_append, List.append_nil, List.length_cons, List.length_nil, Nat.zero_add, Nat.reduceAdd, splice, cellsL] at hg)
            | (refine op_pure hg ?_; clear hg; intro w hg; refine WO.fr ?_) | (refine op_pureB hg ?_; clear hg; intro w hg c hc; cases c <;> refine WO.fr ?_))
          | ((with_reducible refine WO.gid ?_); first | refine WO.on rfl ?_ | refine WO.offN rfl rfl ?_))
        refine ret1 rfl ?_
        rw [htk]
        exact ⟨_, by simp [gt, htook], ⟨_, _, _, _, rfl, .mk (bm := bm2) he2 hd2 hm2⟩, hg.unfour.sub (by simp)⟩
      · refine op_call (Commit_no i e.res hg.owns1 hL0 hn (by rw [← hi, hat]; rintro _ ⟨⟩; exact hh0)) ?_
        rintro _ w2 ⟨rfl, hg2⟩
        replace hg := hg.callF hg2
        clear hg2
        refine ⟨_, rfl, ?_⟩
        refine WO.fr ?_
        obtain ⟨_, fe2, fd2, _, rfl, @⟨ae2, ad2, ce2, cd2, bm2, clock2, es2, _, _, he2, hd2, hm2⟩⟩ := hL0
        replace hg := hg.four
        repeat' (first
          | with_reducible refine QX.next ?_ | with_reducible refine WC.seq ?_ | with_reducible refine WC.region ?_ | with_reducible refine WC.block ?_ | with_reducible refine QX.bnorm ?_ | with_reducible refine QX.bret ?_ | with_reducible refine QX.ret ?_ | with_reducible refine QX.exit ?_ | with_reducible refine QX.bsame ?_ | with_reducible refine QX.bother rfl ?_
          | with_reducible refine WO.nil ?_ | with_reducible refine WC.skip ?_ | with_reducible refine WC.ret ?_ | with_reducible refine WC.exit ?_ | ((with_reducible refine WC.id ?_); first | refine WC.condT rfl ?_ | refine WC.condF rfl ?_)
          | (refine WC.quietG hg ?_; clear hg) | ((with_reducible refine WQ.nilG ?_); intro w hg)
          | ((with_reducible refine WQ.cid ?_); first | refine WQ.xG ?_ | refine WQ.pure ?_)
          | ((with_reducible refine WQ.gid ?_); first | refine WQ.on rfl ?_ | refine WQ.offN rfl rfl ?_)
          | ((with_reducible refine WO.cid ?_); first
            | refine WO.x ?_ | (refine op_alloc hg ?_; clear hg; intro b w hg; refine WO.fr ?_) | (refine op_boxA hg ?_; clear hg; intro b w hg; refine WO.fr ?_) | (refine op_box1 hg ?_; clear hg; intro b w hg; refine WO.fr ?_)
            | (refine op_store hg ?_; clear hg; intro w hg; refine WO.fr ?_; try simp only [List.set_cons_succ, List.set_cons_zero] at hg)
            | (refine op_storeA hg ?_; clear hg; intro w hg; refine WO.fr ?_; try simp only [over, List.take_zero, List.take_succ_cons, List.drop_zero, List.drop_succ_cons, List.nil_append, List.cons_append, List.append_nil, List.length_cons, List.length_nil, Nat.zero_add, Nat.reduceAdd, splice, cellsL] at hg)
            | (refine op_pure hg ?_; clear hg; intro w hg; refine WO.fr ?_) | (refine op_pureB hg ?_; clear hg; intro w hg c hc; cases c <;> refine WO.fr ?_))
          | ((with_reducible refine WO.gid ?_); first | refine WO.on rfl ?_ | refine WO.offN rfl rfl ?_))
        have htk : L.take e = L := by simp [LogS.take, h2, hat, hh0]
        refine ret1 rfl ?_
        rw [htk]
        exact ⟨_, by simp [gt, LogS.took, htk], ⟨_, _, _, _, rfl, .mk (bm := bm2) he2 hd2 hm2⟩, hg.unfour.sub (by simp)⟩
  by_cases h3 : e.kind = 3
  · refine enter Try.func35 rfl (by simp only [Try.ntmps35, List.length_cons, List.length_nil, Nat.reduceAdd, Nat.reduceSub, List.replicate_succ, List.replicate_zero, List.cons_append, List.nil_append]; exact rfl) ?_
    repeat' (first
      | with_reducible refine QX.next ?_ | with_reducible refine WC.seq ?_ | with_reducible refine WC.region ?_ | with_reducible refine WC.block ?_ | with_reducible refine QX.bnorm ?_ | with_reducible refine QX.bret ?_ | with_reducible refine QX.ret ?_ | with_reducible refine QX.exit ?_ | with_reducible refine QX.bsame ?_ | with_reducible refine QX.bother rfl ?_
      | with_reducible refine WO.nil ?_ | with_reducible refine WC.skip ?_ | with_reducible refine WC.ret ?_ | with_reducible refine WC.exit ?_ | ((with_reducible refine WC.id ?_); first | refine WC.condT rfl ?_ | refine WC.condF rfl ?_)
      | (refine WC.quietG hg ?_; clear hg) | ((with_reducible refine WQ.nilG ?_); intro w hg)
      | ((with_reducible refine WQ.cid ?_); first | refine WQ.xG ?_ | refine WQ.pure ?_)
      | ((with_reducible refine WQ.gid ?_); first | refine WQ.on rfl ?_ | refine WQ.offN rfl rfl ?_)
      | ((with_reducible refine WO.cid ?_); first
        | refine WO.x ?_ | (refine op_alloc hg ?_; clear hg; intro b w hg; refine WO.fr ?_) | (refine op_boxA hg ?_; clear hg; intro b w hg; refine WO.fr ?_) | (refine op_box1 hg ?_; clear hg; intro b w hg; refine WO.fr ?_)
        | (refine op_store hg ?_; clear hg; intro w hg; refine WO.fr ?_; try simp only [List.set_cons_succ, List.set_cons_zero] at hg)
        | (refine op_storeA hg ?_; clear hg; intro w hg; refine WO.fr ?_; try simp only [over, List.take_zero, List.take_succ_cons, List.drop_zero, List.drop_succ_cons, List.nil_append, List.cons_append, List.append_nil, List.length_cons, List.length_nil, Nat.zero_add, Nat.reduceAdd, splice, cellsL] at hg)
        | (refine op_pure hg ?_; clear hg; intro w hg; refine WO.fr ?_) | (refine op_pureB hg ?_; clear hg; intro w hg c hc; cases c <;> refine WO.fr ?_))
      | ((with_reducible refine WO.gid ?_); first | refine WO.on rfl ?_ | refine WO.offN rfl rfl ?_))
    replace hg := ((((hg.front 4).front 4).front 4).front 4).unfour
    rw [← hh] at hg
    cases hat : L.at e.id with
    | none =>
      refine op_call (Respond_none e.id e.res hg.owns1 hL0 hn hat) ?_
      rintro _ w2 ⟨rfl, hg2⟩
      replace hg := hg.callF hg2
      clear hg2
      refine ⟨_, rfl, ?_⟩
      refine WO.fr ?_
      obtain ⟨_, fe2, fd2, _, rfl, @⟨ae2, ad2, ce2, cd2, bm2, clock2, es2, _, _, he2, hd2, hm2⟩⟩ := hL0
      replace hg := hg.four
      repeat' (first
        | with_reducible refine QX.next ?_ | with_reducible refine WC.seq ?_ | with_reducible refine WC.region ?_ | with_reducible refine WC.block ?_ | with_reducible refine QX.bnorm ?_ | with_reducible refine QX.bret ?_ | with_reducible refine QX.ret ?_ | with_reducible refine QX.exit ?_ | with_reducible refine QX.bsame ?_ | with_reducible refine QX.bother rfl ?_
        | with_reducible refine WO.nil ?_ | with_reducible refine WC.skip ?_ | with_reducible refine WC.ret ?_ | with_reducible refine WC.exit ?_ | ((with_reducible refine WC.id ?_); first | refine WC.condT rfl ?_ | refine WC.condF rfl ?_)
        | (refine WC.quietG hg ?_; clear hg) | ((with_reducible refine WQ.nilG ?_); intro w hg)
        | ((with_reducible refine WQ.cid ?_); first | refine WQ.xG ?_ | refine WQ.pure ?_)
        | ((with_reducible refine WQ.gid ?_); first | refine WQ.on rfl ?_ | refine WQ.offN rfl rfl ?_)
        | ((with_reducible refine WO.cid ?_); first
          | refine WO.x ?_ | (refine op_alloc hg ?_; clear hg; intro b w hg; refine WO.fr ?_) | (refine op_boxA hg ?_; clear hg; intro b w hg; refine WO.fr ?_) | (refine op_box1 hg ?_; clear hg; intro b w hg; refine WO.fr ?_)
          | (refine op_store hg ?_; clear hg; intro w hg; refine WO.fr ?_; try simp only [List.set_cons_succ, List.set_cons_zero] at hg)
          | (refine op_storeA hg ?_; clear hg; intro w hg; refine WO.fr ?_; try simp only [over, List.take_zero, List.take_succ_cons, List.drop_zero, List.drop_succ_cons, List.nil_append, List.cons_append, List.append_nil, List.length_cons, List.length_nil, Nat.zero_add, Nat.reduceAdd, splice, cellsL] at hg)
          | (refine op_pure hg ?_; clear hg; intro w hg; refine WO.fr ?_) | (refine op_pureB hg ?_; clear hg; intro w hg c hc; cases c <;> refine WO.fr ?_))
        | ((with_reducible refine WO.gid ?_); first | refine WO.on rfl ?_ | refine WO.offN rfl rfl ?_))
      have htk : L.take e = L := by simp [LogS.take, h3, hat]
      refine ret1 rfl ?_
      rw [htk]
      exact ⟨_, by simp [gt, LogS.took, htk], ⟨_, _, _, _, rfl, .mk (bm := bm2) he2 hd2 hm2⟩, hg.unfour.sub (by simp)⟩
    | some d =>
      obtain ⟨i, hi, hdi, hd2⟩ := LogS.at_some hat
      have hat' := hat
      rw [hi] at hat'
      rw [hi]
      refine op_call (Respond_some i d e.res hg.owns1 hL0 hn hdi hd2) ?_
      rintro _ w2 ⟨h', hg2, ⟨hw, rfl, hL'⟩ | ⟨hw, rfl, hL'⟩⟩
      all_goals
        replace hg := hg.callF hg2
        clear hg2
        refine ⟨_, rfl, ?_⟩
        refine WO.fr ?_
      · obtain ⟨_, fe2, fd2, _, rfl, @⟨ae2, ad2, ce2, cd2, bm2, clock2, es2, _, _, he2, hd2, hm2⟩⟩ := hL'
        replace hg := hg.four
        have hlen : (L.res i d e.res).events.length = L.events.length + 1 := by simp [LogS.res]
        have hx : (L.res i d e.res).events[L.events.length]? = some ⟨3, i, d.client, d.op, e.res⟩ := by simp [LogS.res]
        have htk : L.take e = L.res i d e.res := by simp [LogS.take, h3, hi, hat', ← hw]
        have htook : L.took e = decide (⟨3, i, d.client, d.op, e.res⟩ = e) := by simp only [LogS.took, htk, hx]
        obtain ⟨g2, A2, B2, rfl, rfl, hA2, _⟩ := he2.split Ev.enc_len hx
        have k14 : ((A2 ++ (Ev.enc ⟨3, i, d.client, d.op, e.res⟩ ++ B2)).drop (L.events.length * 14)).take 14 = [.int .i64 3, .int .i64 i, .int .i64 d.client, .int .i64 d.op.kind, .int .i64 d.op.n, .string d.op.data, .int .i64 e.res.e, .int .i64 e.res.n, .int .i64 e.res.k1, .int .i64 e.res.k2, .int .i64 e.res.k3, .int .i64 e.res.k4, .int .i64 e.res.k5, .int .i64 e.res.k6] := mid_rows hA2 rfl
        have e1 : eqL [.int, .int, .int, .int, .int, .str, .int, .int, .int, .int, .int, .int, .int, .int] [.int .i64 3, .int .i64 i, .int .i64 d.client, .int .i64 d.op.kind, .int .i64 d.op.n, .string d.op.data, .int .i64 e.res.e, .int .i64 e.res.n, .int .i64 e.res.k1, .int .i64 e.res.k2, .int .i64 e.res.k3, .int .i64 e.res.k4, .int .i64 e.res.k5, .int .i64 e.res.k6] [.int .i64 e.kind, .int .i64 e.id, .int .i64 e.client, .int .i64 e.op.kind, .int .i64 e.op.n, .string e.op.data, .int .i64 e.res.e, .int .i64 e.res.n, .int .i64 e.res.k1, .int .i64 e.res.k2, .int .i64 e.res.k3, .int .i64 e.res.k4, .int .i64 e.res.k5, .int .i64 e.res.k6] = some (decide (⟨3, i, d.client, d.op, e.res⟩ = e)) := eqL_ev ⟨3, i, d.client, d.op, e.res⟩ e
        repeat' (first
          | with_reducible refine QX.next ?_ | with_reducible refine WC.seq ?_ | with_reducible refine WC.region ?_ | with_reducible refine WC.block ?_ | with_reducible refine QX.bnorm ?_ | with_reducible refine QX.bret ?_ | with_reducible refine QX.ret ?_ | with_reducible refine QX.exit ?_ | with_reducible refine QX.bsame ?_ | with_reducible refine QX.bother rfl ?_
          | with_reducible refine WO.nil ?_ | with_reducible refine WC.skip ?_ | with_reducible refine WC.ret ?_ | with_reducible refine WC.exit ?_ | ((with_reducible refine WC.id ?_); first | refine WC.condT rfl ?_ | refine WC.condF rfl ?_)
          | (refine WC.quietG hg ?_; clear hg) | ((with_reducible refine WQ.nilG ?_); intro w hg)
          | ((with_reducible refine WQ.cid ?_); first | refine WQ.xG ?_ | refine WQ.pure ?_)
          | ((with_reducible refine WQ.gid ?_); first | refine WQ.on rfl ?_ | refine WQ.offN rfl rfl ?_)
          | ((with_reducible refine WO.cid ?_); first
            | refine WO.x ?_ | (refine op_alloc hg ?_; clear hg; intro b w hg; refine WO.fr ?_) | (refine op_boxA hg ?_; clear hg; intro b w hg; refine WO.fr ?_) | (refine op_box1 hg ?_; clear hg; intro b w hg; refine WO.fr ?_)
            | (refine op_store hg ?_; clear hg; intro w hg; refine WO.fr ?_; try simp only [List.set_cons_succ, List.set_cons_zero] at hg)
            | (refine op_storeA hg ?_; clear hg; intro w hg; refine WO.fr ?_; try simp only [over, List.take_zero, List.take_succ_cons, List.drop_zero, List.drop_succ_cons, List.nil_append, List.cons_append, List.append_nil, List.length_cons, List.length_nil, Nat.zero_add, Nat.reduceAdd, splice, cellsL] at hg)
            | (refine op_pure hg ?_; clear hg; intro w hg; refine WO.fr ?_) | (refine op_pureB hg ?_; clear hg; intro w hg c hc; cases c <;> refine WO.fr ?_))
          | ((with_reducible refine WO.gid ?_); first | refine WO.on rfl ?_ | refine WO.offN rfl rfl ?_))
        refine ret1 rfl ?_
        rw [htk]
        exact ⟨_, by simp [gt, htook], ⟨_, _, _, _, rfl, .mk (bm := bm2) he2 hd2 hm2⟩, hg.unfour.sub (by simp)⟩
      · obtain ⟨_, fe2, fd2, _, rfl, @⟨ae2, ad2, ce2, cd2, bm2, clock2, es2, _, _, he2, hd2, hm2⟩⟩ := hL'
        replace hg := hg.four
        repeat' (first
          | with_reducible refine QX.next ?_ | with_reducible refine WC.seq ?_ | with_reducible refine WC.region ?_ | with_reducible refine WC.block ?_ | with_reducible refine QX.bnorm ?_ | with_reducible refine QX.bret ?_ | with_reducible refine QX.ret ?_ | with_reducible refine QX.exit ?_ | with_reducible refine QX.bsame ?_ | with_reducible refine QX.bother rfl ?_
          | with_reducible refine WO.nil ?_ | with_reducible refine WC.skip ?_ | with_reducible refine WC.ret ?_ | with_reducible refine WC.exit ?_ | ((with_reducible refine WC.id ?_); first | refine WC.condT rfl ?_ | refine WC.condF rfl ?_)
          | (refine WC.quietG hg ?_; clear hg) | ((with_reducible refine WQ.nilG ?_); intro w hg)
          | ((with_reducible refine WQ.cid ?_); first | refine WQ.xG ?_ | refine WQ.pure ?_)
          | ((with_reducible refine WQ.gid ?_); first | refine WQ.on rfl ?_ | refine WQ.offN rfl rfl ?_)
          | ((with_reducible refine WO.cid ?_); first
            | refine WO.x ?_ | (refine op_alloc hg ?_; clear hg; intro b w hg; refine WO.fr ?_) | (refine op_boxA hg ?_; clear hg; intro b w hg; refine WO.fr ?_) | (refine op_box1 hg ?_; clear hg; intro b w hg; refine WO.fr ?_)
            | (refine op_store hg ?_; clear hg; intro w hg; refine WO.fr ?_; try simp only [List.set_cons_succ, List.set_cons_zero] at hg)
            | (refine op_storeA hg ?_; clear hg; intro w hg; refine WO.fr ?_; try simp only [over, List.take_zero, List.take_succ_cons, List.drop_zero, List.drop_succ_cons, List.nil_append, List.cons_append, List.append_nil, List.length_cons, List.length_nil, Nat.zero_add, Nat.reduceAdd, splice, cellsL] at hg)
            | (refine op_pure hg ?_; clear hg; intro w hg; refine WO.fr ?_) | (refine op_pureB hg ?_; clear hg; intro w hg c hc; cases c <;> refine WO.fr ?_))
          | ((with_reducible refine WO.gid ?_); first | refine WO.on rfl ?_ | refine WO.offN rfl rfl ?_))
        have htk : L.take e = L := by simp [LogS.take, h3, hat, hw]
        refine ret1 rfl ?_
        rw [htk]
        exact ⟨_, by simp [gt, LogS.took, htk], ⟨_, _, _, _, rfl, .mk (bm := bm2) he2 hd2 hm2⟩, hg.unfour.sub (by simp)⟩
  refine enter Try.func35 rfl (by simp only [Try.ntmps35, List.length_cons, List.length_nil, Nat.reduceAdd, Nat.reduceSub, List.replicate_succ, List.replicate_zero, List.cons_append, List.nil_append]; exact rfl) ?_
  repeat' (first
    | with_reducible refine QX.next ?_ | with_reducible refine WC.seq ?_ | with_reducible refine WC.region ?_ | with_reducible refine WC.block ?_ | with_reducible refine QX.bnorm ?_ | with_reducible refine QX.bret ?_ | with_reducible refine QX.ret ?_ | with_reducible refine QX.exit ?_ | with_reducible refine QX.bsame ?_ | with_reducible refine QX.bother rfl ?_
    | with_reducible refine WO.nil ?_ | with_reducible refine WC.skip ?_ | with_reducible refine WC.ret ?_ | with_reducible refine WC.exit ?_ | ((with_reducible refine WC.id ?_); first | refine WC.condT rfl ?_ | refine WC.condF rfl ?_)
    | (refine WC.quietG hg ?_; clear hg) | ((with_reducible refine WQ.nilG ?_); intro w hg)
    | ((with_reducible refine WQ.cid ?_); first | refine WQ.xG ?_ | refine WQ.pure ?_)
    | ((with_reducible refine WQ.gid ?_); first | refine WQ.on rfl ?_ | refine WQ.offN rfl rfl ?_)
    | ((with_reducible refine WO.cid ?_); first
      | refine WO.x ?_ | (refine op_alloc hg ?_; clear hg; intro b w hg; refine WO.fr ?_) | (refine op_boxA hg ?_; clear hg; intro b w hg; refine WO.fr ?_) | (refine op_box1 hg ?_; clear hg; intro b w hg; refine WO.fr ?_)
      | (refine op_store hg ?_; clear hg; intro w hg; refine WO.fr ?_; try simp only [List.set_cons_succ, List.set_cons_zero] at hg)
      | (refine op_storeA hg ?_; clear hg; intro w hg; refine WO.fr ?_; try simp only [over, List.take_zero, List.take_succ_cons, List.drop_zero, List.drop_succ_cons, List.nil_append, List.cons_append, List.append_nil, List.length_cons, List.length_nil, Nat.zero_add, Nat.reduceAdd, splice, cellsL] at hg)
      | (refine op_pure hg ?_; clear hg; intro w hg; refine WO.fr ?_) | (refine op_pureB hg ?_; clear hg; intro w hg c hc; cases c <;> refine WO.fr ?_))
    | ((with_reducible refine WO.gid ?_); first | refine WO.on rfl ?_ | refine WO.offN rfl rfl ?_))
  have htk : L.take e = L := by simp [LogS.take, h1, h2, h3]
  refine ret1 rfl ?_
  rw [htk]
  exact ⟨h, by simp [gt, LogS.took, htk], hL0, hh ▸ ((((hg.front 4).front 4).front 4).front 4).unfour.sub (by simp)⟩
end Go.Proofs.Ytlomipcjkkjhiaa
