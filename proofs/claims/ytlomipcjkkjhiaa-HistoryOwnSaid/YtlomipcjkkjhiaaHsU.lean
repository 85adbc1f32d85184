/- history, the document's log: put, Invoke, Later, Of; Same, light. -/
import Derived.Test.YtlomipcjkkjhiaaHsF
namespace Go.Proofs.Ytlomipcjkkjhiaa
open Go Go.RowKit
set_option maxRecDepth 10000
set_option linter.unusedSimpArgs false
set_option linter.unusedVariables false

section
variable {P : Program} {Q : Exit → Act → World → Prop} {S : World → Prop} {late : List Nat} {l l' : List Value} {d : List Deferred} {w w0 : World} {M : List Nat} {Fs : List Frag} {fuel : Nat} {listed listed' : List Bool}
variable {ops : Array Oper} {os : List Oper} {dst dst2 : Option Tmp} {ty ty2 : TypeId} {pos pos2 : String} {af af2 : Array Edge} {v : Value} {op op2 : Op}
theorem WA.step1 {i : Nat} (h : WO P none ops (KA P ops Q S late i fuel (listed.set i true)) [⟨dst, op, ty, pos, af, none⟩] l d w) (ho : ops[i]? = some ⟨dst, op, ty, pos, af, none⟩) :
    wpOpIn (Fr none) 0 P ops (NQ Q) i (fun a' w' => (late.contains i = false → S w') ∧ wpAnyS (Fr none) 0 P .any ops (NQ Q) S late fuel (listed.toArray.setIfInBounds i true) a' w') (St l d) w := by
  have h1 := h.out
  unfold wpOpIn
  rw [ho]
  simp only [wpListIn, Region.wanted, if_true] at h1 ⊢
  have h2 := wpIn_noPanic (N := fun a w => (late.contains i = false → S w) ∧ wpAnyS (Fr none) 0 P .any ops (NQ Q) S late fuel (listed.set i true).toArray a w) (Q := NQ Q) h1
  simpa using h2
theorem WA.step1G {i j : Nat} {b : Bool} (h : WO P none ops (KA P ops Q S late i fuel (listed.set i true)) [⟨dst, op, ty, pos, af, none⟩] l d w) (ho : ops[i]? = some ⟨dst, op, ty, pos, af, some (j, b)⟩) (hy : yielded ops l.toArray j = some b) :
    wpOpIn (Fr none) 0 P ops (NQ Q) i (fun a' w' => (late.contains i = false → S w') ∧ wpAnyS (Fr none) 0 P .any ops (NQ Q) S late fuel (listed.toArray.setIfInBounds i true) a' w') (St l d) w := by
  have h1 := h.out
  unfold wpOpIn
  rw [ho]
  simp only [wpListIn, Region.wanted, if_true, hy, beq_self_eq_true] at h1 ⊢
  have h2 := wpIn_noPanic (N := fun a w => (late.contains i = false → S w) ∧ wpAnyS (Fr none) 0 P .any ops (NQ Q) S late fuel (listed.set i true).toArray a w) (Q := NQ Q) h1
  have h3 : Oper.wpIn (Fr none) 0 P ⟨dst, op, ty, pos, af, some (j, b)⟩ (St l d) w (fun a w => (late.contains i = false → S w) ∧ wpAnyS (Fr none) 0 P .any ops (NQ Q) S late fuel (listed.set i true).toArray a w) (NQ Q) := h2
  simpa using h3
/-- Two are ready. -/
theorem WA.two (i j : Nat) (h1 : WO P none ops (KA P ops Q S late i fuel (listed.set i true)) [⟨dst, op, ty, pos, af, none⟩] l d w) (h2 : WO P none ops (KA P ops Q S late j fuel (listed.set j true)) [⟨dst2, op2, ty2, pos2, af2, none⟩] l d w)
    (ho1 : ops[i]? = some ⟨dst, op, ty, pos, af, none⟩ := by exact rfl) (ho2 : ops[j]? = some ⟨dst2, op2, ty2, pos2, af2, none⟩ := by exact rfl) (hr : Region.ready .any ops listed.toArray = [i, j] := by kernel_rfl) : WA P ops Q S late (fuel + 1) listed l d w := by
  refine ⟨And.intro (fun h0 => by rw [hr] at h0; cases h0) ?_⟩
  intro k hk
  rw [hr] at hk
  rcases List.mem_cons.1 hk with rfl | hk
  · exact WA.step1 h1 ho1
  · obtain rfl := List.mem_singleton.1 hk
    exact WA.step1 h2 ho2
theorem WA.onlyG (i : Nat) {j : Nat} {b : Bool} (h : WO P none ops (KA P ops Q S late i fuel (listed.set i true)) [⟨dst, op, ty, pos, af, none⟩] l d w) (ho : ops[i]? = some ⟨dst, op, ty, pos, af, some (j, b)⟩ := by exact rfl) (hy : yielded ops l.toArray j = some b := by exact rfl) (hr : Region.ready .any ops listed.toArray = [i] := by kernel_rfl) :
    WA P ops Q S late (fuel + 1) listed l d w := by
  refine ⟨And.intro (fun h0 => by rw [hr] at h0; cases h0) ?_⟩
  intro k hk
  rw [hr] at hk
  obtain rfl := List.mem_singleton.1 hk
  exact WA.step1G h ho hy
end

/-- The document's log, as it lies. -/
def HF (pm : Nat) (evs : List Ev) (h : Frag) : Prop := ∃ am cm fm, h = [(pm, .cells [.slice am evs.length cm].toArray 30 (0, 0))] ++ fm ∧ Own 58 14 am evs.length cm (evs.map Ev.enc).flatten fm
theorem Goes.pair {w0 w : World} {M : List Nat} {a b : Frag} {Fs : List Frag} (hg : Goes w0 M ((a ++ b) :: Fs) w) : Goes w0 M (a :: b :: Fs) w := hg.perm (by simp)
theorem Goes.unpair {w0 w : World} {M : List Nat} {a b : Frag} {Fs : List Frag} (hg : Goes w0 M (a :: b :: Fs) w) : Goes w0 M ((a ++ b) :: Fs) w := hg.perm (by simp)
theorem evs_own {w0 w : World} {M : List Nat} {Fs : List Frag} {a : Option Addr} {cap n : Nat} {evs : List Ev} {f : Frag} (h : Own 58 14 a n cap (evs.map Ev.enc).flatten f) (hg : Goes w0 M (f :: Fs) w) (hn : evs.length = n) (hl : n ≤ 1000) : Sl w a cap 14 (evs.map Ev.enc) :=
  h.sl hg (by simp [Ev.enc]) (by simpa using hn) (by omega)
theorem evs_srcU {w : World} {b : Option Addr} {c : Nat} {its : List Ev} (h : Sl w b c 14 (its.map Ev.enc)) : Src Try.prog 14 28 (.slice b its.length c) its.length (its.map Ev.enc).flatten w := by
  have := h.src (P := Try.prog) (tx := 28) Und.out (by simp [Ev.enc]) (by simp [Ev.enc, Value.oneCell'])
  simpa using this


set_option maxHeartbeats 4000000 in
theorem Hput_spec {pm : Nat} {evs : List Ev} {h : Frag} {w0 : World} (e : Ev) (hO : Owns w0 h) (hL : HF pm evs h) (hn : evs.length ≤ 999) :
    Calls Try.prog 33 #[.pointer (some ⟨pm, 0, none⟩), .agg e.enc.toArray] w0 fun x w' => ∃ h', x = .returned (.bool (followsB evs e)) ∧ HF pm (if followsB evs e then evs ++ [e] else evs) h' ∧ Goes w0 (keys h) [h'] w' := by
  obtain ⟨am, cm, fm, rfl, hm⟩ := hL
  have hg := hO.goes.pair
  have p1 : ∀ {w : World} {x : Frag}, Goes w0 (keys ([(pm, .cells [.slice am evs.length cm].toArray 30 (0, 0))] ++ fm)) [x, [(pm, .cells [.slice am evs.length cm].toArray 30 (0, 0))], fm] w → Calls Try.prog 36 #[.slice am evs.length cm, .agg e.enc.toArray] w _ := fun h => Follows_spec _ am cm evs e (evs_own hm (h.front 2) rfl (by omega))
  simp only [Ev.enc] at p1 ⊢
  cases hf : followsB evs e with
  | false =>
    simp only [hf] at p1
    refine enter Try.func33 rfl (by simp only [Try.ntmps33, List.length_cons, List.length_nil, Nat.reduceAdd, Nat.reduceSub, List.replicate_succ, List.replicate_zero, List.cons_append, List.nil_append]; exact rfl) ?_
    repeat' (first
      | with_reducible refine QX.next ?_ | with_reducible refine WC.seq ?_ | with_reducible refine WC.region ?_ | with_reducible refine WC.block ?_ | with_reducible refine QX.bnorm ?_ | with_reducible refine QX.bret ?_ | with_reducible refine QX.ret ?_ | with_reducible refine QX.exit ?_ | with_reducible refine QX.bsame ?_ | with_reducible refine QX.bother rfl ?_
      | with_reducible refine WO.nil ?_ | with_reducible refine WC.skip ?_ | with_reducible refine WC.ret ?_ | with_reducible refine WC.exit ?_ | ((with_reducible refine WC.id ?_); first | refine WC.condT rfl ?_ | refine WC.condF rfl ?_)
      | (refine WC.quietG hg ?_; clear hg) | ((with_reducible refine WQ.nilG ?_); intro w hg)
      | ((with_reducible refine WQ.cid ?_); first | refine WQ.xG ?_ | refine WQ.pure ?_)
      | ((with_reducible refine WQ.gid ?_); first | refine WQ.on rfl ?_ | refine WQ.offN rfl rfl ?_)
      | ((with_reducible refine WO.cid ?_); first
        | refine WO.x ?_ | (refine op_alloc hg ?_; clear hg; intro b w hg; refine WO.fr ?_) | (refine op_boxA hg ?_; clear hg; intro b w hg; refine WO.fr ?_) | (refine op_box1 hg ?_; clear hg; intro b w hg; refine WO.fr ?_)
        | (refine op_store hg ?_; clear hg; intro w hg; refine WO.fr ?_; try simp only [List.set_cons_succ, List.set_cons_zero] at hg)
        | (refine op_storeA hg ?_; clear hg; intro w hg; refine WO.fr ?_; try simp only [over, List.take_zero, List.take_succ_cons, List.drop_zero, List.drop_succ_cons, List.nil_append, List.cons_append, List.append_nil, List.length_cons, List.length_nil, Nat.zero_add, Nat.reduceAdd, splice, cellsL] at hg)
        | (refine op_pure hg ?_; clear hg; intro w hg; refine WO.fr ?_) | (refine op_pureB hg ?_; clear hg; intro w hg c hc; cases c <;> refine WO.fr ?_))
      | ((with_reducible refine WO.gid ?_); first | refine WO.on rfl ?_ | refine WO.offN rfl rfl ?_))
    exact ret1 rfl ⟨_, rfl, ⟨am, cm, fm, rfl, hm⟩, hg.sub (by simp)⟩
  | true =>
    simp only [hf] at p1
    refine enter Try.func33 rfl (by simp only [Try.ntmps33, List.length_cons, List.length_nil, Nat.reduceAdd, Nat.reduceSub, List.replicate_succ, List.replicate_zero, List.cons_append, List.nil_append]; exact rfl) ?_
    repeat' (first
      | with_reducible refine QX.next ?_ | with_reducible refine WC.seq ?_ | with_reducible refine WC.region ?_ | with_reducible refine WC.block ?_ | with_reducible refine QX.bnorm ?_ | with_reducible refine QX.bret ?_ | with_reducible refine QX.ret ?_ | with_reducible refine QX.exit ?_ | with_reducible refine QX.bsame ?_ | with_reducible refine QX.bother rfl ?_
      | with_reducible refine WO.nil ?_ | with_reducible refine WC.skip ?_ | with_reducible refine WC.ret ?_ | with_reducible refine WC.exit ?_ | ((with_reducible refine WC.id ?_); first | refine WC.condT rfl ?_ | refine WC.condF rfl ?_)
      | (refine WC.quietG hg ?_; clear hg) | ((with_reducible refine WQ.nilG ?_); intro w hg)
      | ((with_reducible refine WQ.cid ?_); first | refine WQ.xG ?_ | refine WQ.pure ?_)
      | ((with_reducible refine WQ.gid ?_); first | refine WQ.on rfl ?_ | refine WQ.offN rfl rfl ?_)
      | ((with_reducible refine WO.cid ?_); first
        | refine WO.x ?_ | (refine op_alloc hg ?_; clear hg; intro b w hg; refine WO.fr ?_) | (refine op_boxA hg ?_; clear hg; intro b w hg; refine WO.fr ?_) | (refine op_box1 hg ?_; clear hg; intro b w hg; refine WO.fr ?_)
        | (refine op_store hg ?_; clear hg; intro w hg; refine WO.fr ?_; try simp only [List.set_cons_succ, List.set_cons_zero] at hg)
        | (refine op_storeA hg ?_; clear hg; intro w hg; refine WO.fr ?_; try simp only [over, List.take_zero, List.take_succ_cons, List.drop_zero, List.drop_succ_cons, List.nil_append, List.cons_append, List.append_nil, List.length_cons, List.length_nil, Nat.zero_add, Nat.reduceAdd, splice, cellsL] at hg)
        | (refine op_pure hg ?_; clear hg; intro w hg; refine WO.fr ?_) | (refine op_pureB hg ?_; clear hg; intro w hg c hc; cases c <;> refine WO.fr ?_))
      | ((with_reducible refine WO.gid ?_); first | refine WO.on rfl ?_ | refine WO.offN rfl rfl ?_))
    have s1 : ∀ {w : World}, (w.heap[pm]? = some (.cells [.slice am evs.length cm].toArray 30 (0, 0)) ∧ w.heap[b]? = some (.cells (List.toArray [.int .i64 e.kind, .int .i64 e.id, .int .i64 e.client, .int .i64 e.op.kind, .int .i64 e.op.n, .string e.op.data, .int .i64 e.res.e, .int .i64 e.res.n, .int .i64 e.res.k1, .int .i64 e.res.k2, .int .i64 e.res.k3, .int .i64 e.res.k4, .int .i64 e.res.k5, .int .i64 e.res.k6]) 58 (0, 0))) → w.cell? ⟨pm, 0, none⟩ = some (.slice am evs.length cm) := fun h => heap_cell h.1 rfl
    have t1 : ∀ {w : World}, (w.heap[pm]? = some (.cells [.slice am evs.length cm].toArray 30 (0, 0)) ∧ w.heap[b]? = some (.cells (List.toArray [.int .i64 e.kind, .int .i64 e.id, .int .i64 e.client, .int .i64 e.op.kind, .int .i64 e.op.n, .string e.op.data, .int .i64 e.res.e, .int .i64 e.res.n, .int .i64 e.res.k1, .int .i64 e.res.k2, .int .i64 e.res.k3, .int .i64 e.res.k4, .int .i64 e.res.k5, .int .i64 e.res.k6]) 58 (0, 0))) → Cells w ⟨b, 0, none⟩ [.int .i64 e.kind, .int .i64 e.id, .int .i64 e.client, .int .i64 e.op.kind, .int .i64 e.op.n, .string e.op.data, .int .i64 e.res.e, .int .i64 e.res.n, .int .i64 e.res.k1, .int .i64 e.res.k2, .int .i64 e.res.k3, .int .i64 e.res.k4, .int .i64 e.res.k5, .int .i64 e.res.k6] := fun h => heap_cells h.2 rfl
    refine WC.drawn (fun w => w.heap[pm]? = some (.cells [.slice am evs.length cm].toArray 30 (0, 0)) ∧ w.heap[b]? = some (.cells (List.toArray [.int .i64 e.kind, .int .i64 e.id, .int .i64 e.client, .int .i64 e.op.kind, .int .i64 e.op.n, .string e.op.data, .int .i64 e.res.e, .int .i64 e.res.n, .int .i64 e.res.k1, .int .i64 e.res.k2, .int .i64 e.res.k3, .int .i64 e.res.k4, .int .i64 e.res.k5, .int .i64 e.res.k6]) 58 (0, 0))) [10, 11, 12] hg ?_
    clear hg
    intro w hg
    have hS : (fun w => w.heap[pm]? = some (.cells [.slice am evs.length cm].toArray 30 (0, 0)) ∧ w.heap[b]? = some (.cells (List.toArray [.int .i64 e.kind, .int .i64 e.id, .int .i64 e.client, .int .i64 e.op.kind, .int .i64 e.op.n, .string e.op.data, .int .i64 e.res.e, .int .i64 e.res.n, .int .i64 e.res.k1, .int .i64 e.res.k2, .int .i64 e.res.k3, .int .i64 e.res.k4, .int .i64 e.res.k5, .int .i64 e.res.k6]) 58 (0, 0))) w := ⟨hg.own (pm, _) (by simp), hg.own (b, _) (by simp)⟩
    refine WA.pass 0 hS ?_
    refine WA.pass 2 hS ?_
    refine WA.pass 3 hS ?_
    refine WA.pass 4 hS ?_
    refine WA.passS 5 hS ?_
    refine WA.passS 7 hS ?_
    refine WA.two 1 8 ?_ ?_
    · refine op_buildNil hg ?_
      clear hg hS
      intro b1 w hO1 hg
      refine WO.fr ?_
      have hS : (fun w => w.heap[pm]? = some (.cells [.slice am evs.length cm].toArray 30 (0, 0)) ∧ w.heap[b]? = some (.cells (List.toArray [.int .i64 e.kind, .int .i64 e.id, .int .i64 e.client, .int .i64 e.op.kind, .int .i64 e.op.n, .string e.op.data, .int .i64 e.res.e, .int .i64 e.res.n, .int .i64 e.res.k1, .int .i64 e.res.k2, .int .i64 e.res.k3, .int .i64 e.res.k4, .int .i64 e.res.k5, .int .i64 e.res.k6]) 58 (0, 0))) w := ⟨hg.own (pm, _) (by simp), hg.own (b, _) (by simp)⟩
      refine WO.nilA hS ?_
      refine WA.two 6 8 ?_ ?_
      · refine op_append hg hO1 (evs_srcU (evs_own hm (hg.front 3) rfl (by omega))) ?_
        clear hg hS hO1
        intro a1 c1 f1 w hO1 hg
        refine WO.fr ?_
        have hS : (fun w => w.heap[pm]? = some (.cells [.slice am evs.length cm].toArray 30 (0, 0)) ∧ w.heap[b]? = some (.cells (List.toArray [.int .i64 e.kind, .int .i64 e.id, .int .i64 e.client, .int .i64 e.op.kind, .int .i64 e.op.n, .string e.op.data, .int .i64 e.res.e, .int .i64 e.res.n, .int .i64 e.res.k1, .int .i64 e.res.k2, .int .i64 e.res.k3, .int .i64 e.res.k4, .int .i64 e.res.k5, .int .i64 e.res.k6]) 58 (0, 0))) w := ⟨hg.own (pm, _) (by simp), hg.own (b, _) (by simp)⟩
        refine WO.nilA hS ?_
        refine WA.only 8 ?_
        refine op_buildRows (rows := [Ev.enc e]) (by first | (simp only [ev, gt, put, List.set_cons_succ, List.set_cons_zero, Nat.zero_add, Nat.add_zero, Nat.mul_one, Nat.reduceAdd, Nat.reduceMul, Int.toNat_natCast, Int.reduceToNat, List.map_cons, List.map_nil, List.cons_append, List.nil_append]; exact rfl) | simp only [ev, gt, put, List.set_cons_succ, List.set_cons_zero, Nat.zero_add, Nat.add_zero, Nat.mul_one, Nat.reduceAdd, Nat.reduceMul, Int.toNat_natCast, Int.reduceToNat, List.map_cons, List.map_nil, List.cons_append, List.nil_append]) rfl (by simp [Ev.enc]) rfl rfl (by decide) hg ?_
        clear hg hS
        intro b2 w hg
        refine WO.fr ?_
        have hS : (fun w => w.heap[pm]? = some (.cells [.slice am evs.length cm].toArray 30 (0, 0)) ∧ w.heap[b]? = some (.cells (List.toArray [.int .i64 e.kind, .int .i64 e.id, .int .i64 e.client, .int .i64 e.op.kind, .int .i64 e.op.n, .string e.op.data, .int .i64 e.res.e, .int .i64 e.res.n, .int .i64 e.res.k1, .int .i64 e.res.k2, .int .i64 e.res.k3, .int .i64 e.res.k4, .int .i64 e.res.k5, .int .i64 e.res.k6]) 58 (0, 0))) w := ⟨hg.own (pm, _) (by simp), hg.own (b, _) (by simp)⟩
        refine WO.nilA hS ?_
        refine WA.only 9 ?_
        refine op_append (hg.front 1) hO1 (hg.src1 Und.out rfl rfl) ?_
        clear hg hS hO1
        intro a2 c2 f2 w hO1 hg
        refine WO.fr ?_
        have hS : (fun w => w.heap[pm]? = some (.cells [.slice am evs.length cm].toArray 30 (0, 0)) ∧ w.heap[b]? = some (.cells (List.toArray [.int .i64 e.kind, .int .i64 e.id, .int .i64 e.client, .int .i64 e.op.kind, .int .i64 e.op.n, .string e.op.data, .int .i64 e.res.e, .int .i64 e.res.n, .int .i64 e.res.k1, .int .i64 e.res.k2, .int .i64 e.res.k3, .int .i64 e.res.k4, .int .i64 e.res.k5, .int .i64 e.res.k6]) 58 (0, 0))) w := ⟨hg.own (pm, _) (by simp), hg.own (b, _) (by simp)⟩
        refine WO.nilA hS ?_
        refine WA.passL 10 ?_
        refine WA.passL 11 ?_
        refine WA.only 12 ?_
        refine op_store hg ?_
        clear hg
        intro w hg
        refine WO.fr ?_
        refine WO.nilL ?_
        refine WA.nil ?_
        repeat' (first
          | with_reducible refine QX.next ?_ | with_reducible refine WC.seq ?_ | with_reducible refine WC.region ?_ | with_reducible refine WC.block ?_ | with_reducible refine QX.bnorm ?_ | with_reducible refine QX.bret ?_ | with_reducible refine QX.ret ?_ | with_reducible refine QX.exit ?_ | with_reducible refine QX.bsame ?_ | with_reducible refine QX.bother rfl ?_
          | with_reducible refine WO.nil ?_ | with_reducible refine WC.skip ?_ | with_reducible refine WC.ret ?_ | with_reducible refine WC.exit ?_ | ((with_reducible refine WC.id ?_); first | refine WC.condT rfl ?_ | refine WC.condF rfl ?_)
          | (refine WC.quietG hg ?_; clear hg) | ((with_reducible refine WQ.nilG ?_); intro w hg)
          | ((with_reducible refine WQ.cid ?_); first | refine WQ.xG ?_ | refine WQ.pure ?_)
          | ((with_reducible refine WQ.gid ?_); first | refine WQ.on rfl ?_ | refine WQ.offN rfl rfl ?_)
          | ((with_reducible refine WO.cid ?_); first
            | refine WO.x ?_ | (refine op_alloc hg ?_; clear hg; intro b w hg; refine WO.fr ?_) | (refine op_boxA hg ?_; clear hg; intro b w hg; refine WO.fr ?_) | (refine op_box1 hg ?_; clear hg; intro b w hg; refine WO.fr ?_)
            | (refine op_store hg ?_; clear hg; intro w hg; refine WO.fr ?_; try simp only [List.set_cons_succ, List.set_cons_zero] at hg)
            | (refine op_storeA hg ?_; clear hg; intro w hg; refine WO.fr ?_; try simp only [over, List.take_zero, List.take_succ_cons, List.drop_zero, List.drop_succ_cons, List.nil_append, List.cons_append, List.append_nil, List.length_cons, List.length_nil, Nat.zero_add, Nat.reduceAdd, splice, cellsL] at hg)
            | (refine op_pure hg ?_; clear hg; intro w hg; refine WO.fr ?_) | (refine op_pureB hg ?_; clear hg; intro w hg c hc; cases c <;> refine WO.fr ?_))
          | ((with_reducible refine WO.gid ?_); first | refine WO.on rfl ?_ | refine WO.offN rfl rfl ?_))
        have hl : evs.length + 1 = (evs ++ [e]).length := by simp
        rw [show 0 + evs.length + 1 = evs.length + 1 from by omega] at hO1
        rw [hl] at hg hO1
        refine ret1 rfl ⟨_, rfl, ⟨a2, c2, f2, rfl, by simpa using hO1⟩, (hg.front 3).unpair.sub (by simp)⟩
      · refine op_buildRows (rows := [Ev.enc e]) (by first | (simp only [ev, gt, put, List.set_cons_succ, List.set_cons_zero, Nat.zero_add, Nat.add_zero, Nat.mul_one, Nat.reduceAdd, Nat.reduceMul, Int.toNat_natCast, Int.reduceToNat, List.map_cons, List.map_nil, List.cons_append, List.nil_append]; exact rfl) | simp only [ev, gt, put, List.set_cons_succ, List.set_cons_zero, Nat.zero_add, Nat.add_zero, Nat.mul_one, Nat.reduceAdd, Nat.reduceMul, Int.toNat_natCast, Int.reduceToNat, List.map_cons, List.map_nil, List.cons_append, List.nil_append]) rfl (by simp [Ev.enc]) rfl rfl (by decide) hg ?_
        clear hg hS
        intro b2 w hg
        refine WO.fr ?_
        have hS : (fun w => w.heap[pm]? = some (.cells [.slice am evs.length cm].toArray 30 (0, 0)) ∧ w.heap[b]? = some (.cells (List.toArray [.int .i64 e.kind, .int .i64 e.id, .int .i64 e.client, .int .i64 e.op.kind, .int .i64 e.op.n, .string e.op.data, .int .i64 e.res.e, .int .i64 e.res.n, .int .i64 e.res.k1, .int .i64 e.res.k2, .int .i64 e.res.k3, .int .i64 e.res.k4, .int .i64 e.res.k5, .int .i64 e.res.k6]) 58 (0, 0))) w := ⟨hg.own (pm, _) (by simp), hg.own (b, _) (by simp)⟩
        refine WO.nilA hS ?_
        refine WA.only 6 ?_
        refine op_append (hg.front 1) hO1 (evs_srcU (evs_own hm (hg.front 4) rfl (by omega))) ?_
        clear hg hS hO1
        intro a1 c1 f1 w hO1 hg
        refine WO.fr ?_
        have hS : (fun w => w.heap[pm]? = some (.cells [.slice am evs.length cm].toArray 30 (0, 0)) ∧ w.heap[b]? = some (.cells (List.toArray [.int .i64 e.kind, .int .i64 e.id, .int .i64 e.client, .int .i64 e.op.kind, .int .i64 e.op.n, .string e.op.data, .int .i64 e.res.e, .int .i64 e.res.n, .int .i64 e.res.k1, .int .i64 e.res.k2, .int .i64 e.res.k3, .int .i64 e.res.k4, .int .i64 e.res.k5, .int .i64 e.res.k6]) 58 (0, 0))) w := ⟨hg.own (pm, _) (by simp), hg.own (b, _) (by simp)⟩
        refine WO.nilA hS ?_
        refine WA.only 9 ?_
        refine op_append hg hO1 (Goes.src1 (hg.front 1) Und.out rfl rfl) ?_
        clear hg hS hO1
        intro a2 c2 f2 w hO1 hg
        refine WO.fr ?_
        have hS : (fun w => w.heap[pm]? = some (.cells [.slice am evs.length cm].toArray 30 (0, 0)) ∧ w.heap[b]? = some (.cells (List.toArray [.int .i64 e.kind, .int .i64 e.id, .int .i64 e.client, .int .i64 e.op.kind, .int .i64 e.op.n, .string e.op.data, .int .i64 e.res.e, .int .i64 e.res.n, .int .i64 e.res.k1, .int .i64 e.res.k2, .int .i64 e.res.k3, .int .i64 e.res.k4, .int .i64 e.res.k5, .int .i64 e.res.k6]) 58 (0, 0))) w := ⟨hg.own (pm, _) (by simp), hg.own (b, _) (by simp)⟩
        refine WO.nilA hS ?_
        refine WA.passL 10 ?_
        refine WA.passL 11 ?_
        refine WA.only 12 ?_
        refine op_store hg ?_
        clear hg
        intro w hg
        refine WO.fr ?_
        refine WO.nilL ?_
        refine WA.nil ?_
        repeat' (first
          | with_reducible refine QX.next ?_ | with_reducible refine WC.seq ?_ | with_reducible refine WC.region ?_ | with_reducible refine WC.block ?_ | with_reducible refine QX.bnorm ?_ | with_reducible refine QX.bret ?_ | with_reducible refine QX.ret ?_ | with_reducible refine QX.exit ?_ | with_reducible refine QX.bsame ?_ | with_reducible refine QX.bother rfl ?_
          | with_reducible refine WO.nil ?_ | with_reducible refine WC.skip ?_ | with_reducible refine WC.ret ?_ | with_reducible refine WC.exit ?_ | ((with_reducible refine WC.id ?_); first | refine WC.condT rfl ?_ | refine WC.condF rfl ?_)
          | (refine WC.quietG hg ?_; clear hg) | ((with_reducible refine WQ.nilG ?_); intro w hg)
          | ((with_reducible refine WQ.cid ?_); first | refine WQ.xG ?_ | refine WQ.pure ?_)
          | ((with_reducible refine WQ.gid ?_); first | refine WQ.on rfl ?_ | refine WQ.offN rfl rfl ?_)
          | ((with_reducible refine WO.cid ?_); first
            | refine WO.x ?_ | (refine op_alloc hg ?_; clear hg; intro b w hg; refine WO.fr ?_) | (refine op_boxA hg ?_; clear hg; intro b w hg; refine WO.fr ?_) | (refine op_box1 hg ?_; clear hg; intro b w hg; refine WO.fr ?_)
            | (refine op_store hg ?_; clear hg; intro w hg; refine WO.fr ?_; try simp only [List.set_cons_succ, List.set_cons_zero] at hg)
            | (refine op_storeA hg ?_; clear hg; intro w hg; refine WO.fr ?_; try simp only [over, List.take_zero, List.take_succ_cons, List.drop_zero, List.drop_succ_cons, List.nil_append, List.cons_append, List.append_nil, List.length_cons, List.length_nil, Nat.zero_add, Nat.reduceAdd, splice, cellsL] at hg)
            | (refine op_pure hg ?_; clear hg; intro w hg; refine WO.fr ?_) | (refine op_pureB hg ?_; clear hg; intro w hg c hc; cases c <;> refine WO.fr ?_))
          | ((with_reducible refine WO.gid ?_); first | refine WO.on rfl ?_ | refine WO.offN rfl rfl ?_))
        have hl : evs.length + 1 = (evs ++ [e]).length := by simp
        rw [show 0 + evs.length + 1 = evs.length + 1 from by omega] at hO1
        rw [hl] at hg hO1
        refine ret1 rfl ⟨_, rfl, ⟨a2, c2, f2, rfl, by simpa using hO1⟩, (hg.front 3).unpair.sub (by simp)⟩
    · refine op_buildRows (rows := [Ev.enc e]) (by first | (simp only [ev, gt, put, List.set_cons_succ, List.set_cons_zero, Nat.zero_add, Nat.add_zero, Nat.mul_one, Nat.reduceAdd, Nat.reduceMul, Int.toNat_natCast, Int.reduceToNat, List.map_cons, List.map_nil, List.cons_append, List.nil_append]; exact rfl) | simp only [ev, gt, put, List.set_cons_succ, List.set_cons_zero, Nat.zero_add, Nat.add_zero, Nat.mul_one, Nat.reduceAdd, Nat.reduceMul, Int.toNat_natCast, Int.reduceToNat, List.map_cons, List.map_nil, List.cons_append, List.nil_append]) rfl (by simp [Ev.enc]) rfl rfl (by decide) hg ?_
      clear hg hS
      intro b2 w hg
      refine WO.fr ?_
      have hS : (fun w => w.heap[pm]? = some (.cells [.slice am evs.length cm].toArray 30 (0, 0)) ∧ w.heap[b]? = some (.cells (List.toArray [.int .i64 e.kind, .int .i64 e.id, .int .i64 e.client, .int .i64 e.op.kind, .int .i64 e.op.n, .string e.op.data, .int .i64 e.res.e, .int .i64 e.res.n, .int .i64 e.res.k1, .int .i64 e.res.k2, .int .i64 e.res.k3, .int .i64 e.res.k4, .int .i64 e.res.k5, .int .i64 e.res.k6]) 58 (0, 0))) w := ⟨hg.own (pm, _) (by simp), hg.own (b, _) (by simp)⟩
      refine WO.nilA hS ?_
      refine WA.only 1 ?_
      refine op_buildNil hg ?_
      clear hg hS
      intro b1 w hO1 hg
      refine WO.fr ?_
      have hS : (fun w => w.heap[pm]? = some (.cells [.slice am evs.length cm].toArray 30 (0, 0)) ∧ w.heap[b]? = some (.cells (List.toArray [.int .i64 e.kind, .int .i64 e.id, .int .i64 e.client, .int .i64 e.op.kind, .int .i64 e.op.n, .string e.op.data, .int .i64 e.res.e, .int .i64 e.res.n, .int .i64 e.res.k1, .int .i64 e.res.k2, .int .i64 e.res.k3, .int .i64 e.res.k4, .int .i64 e.res.k5, .int .i64 e.res.k6]) 58 (0, 0))) w := ⟨hg.own (pm, _) (by simp), hg.own (b, _) (by simp)⟩
      refine WO.nilA hS ?_
      refine WA.only 6 ?_
      refine op_append hg hO1 (evs_srcU (evs_own hm (hg.front 4) rfl (by omega))) ?_
      clear hg hS hO1
      intro a1 c1 f1 w hO1 hg
      refine WO.fr ?_
      have hS : (fun w => w.heap[pm]? = some (.cells [.slice am evs.length cm].toArray 30 (0, 0)) ∧ w.heap[b]? = some (.cells (List.toArray [.int .i64 e.kind, .int .i64 e.id, .int .i64 e.client, .int .i64 e.op.kind, .int .i64 e.op.n, .string e.op.data, .int .i64 e.res.e, .int .i64 e.res.n, .int .i64 e.res.k1, .int .i64 e.res.k2, .int .i64 e.res.k3, .int .i64 e.res.k4, .int .i64 e.res.k5, .int .i64 e.res.k6]) 58 (0, 0))) w := ⟨hg.own (pm, _) (by simp), hg.own (b, _) (by simp)⟩
      refine WO.nilA hS ?_
      refine WA.only 9 ?_
      refine op_append hg hO1 (Goes.src1 (hg.front 1) Und.out rfl rfl) ?_
      clear hg hS hO1
      intro a2 c2 f2 w hO1 hg
      refine WO.fr ?_
      have hS : (fun w => w.heap[pm]? = some (.cells [.slice am evs.length cm].toArray 30 (0, 0)) ∧ w.heap[b]? = some (.cells (List.toArray [.int .i64 e.kind, .int .i64 e.id, .int .i64 e.client, .int .i64 e.op.kind, .int .i64 e.op.n, .string e.op.data, .int .i64 e.res.e, .int .i64 e.res.n, .int .i64 e.res.k1, .int .i64 e.res.k2, .int .i64 e.res.k3, .int .i64 e.res.k4, .int .i64 e.res.k5, .int .i64 e.res.k6]) 58 (0, 0))) w := ⟨hg.own (pm, _) (by simp), hg.own (b, _) (by simp)⟩
      refine WO.nilA hS ?_
      refine WA.passL 10 ?_
      refine WA.passL 11 ?_
      refine WA.only 12 ?_
      refine op_store hg ?_
      clear hg
      intro w hg
      refine WO.fr ?_
      refine WO.nilL ?_
      refine WA.nil ?_
      repeat' (first
        | with_reducible refine QX.next ?_ | with_reducible refine WC.seq ?_ | with_reducible refine WC.region ?_ | with_reducible refine WC.block ?_ | with_reducible refine QX.bnorm ?_ | with_reducible refine QX.bret ?_ | with_reducible refine QX.ret ?_ | with_reducible refine QX.exit ?_ | with_reducible refine QX.bsame ?_ | with_reducible refine QX.bother rfl ?_
        | with_reducible refine WO.nil ?_ | with_reducible refine WC.skip ?_ | with_reducible refine WC.ret ?_ | with_reducible refine WC.exit ?_ | ((with_reducible refine WC.id ?_); first | refine WC.condT rfl ?_ | refine WC.condF rfl ?_)
        | (refine WC.quietG hg ?_; clear hg) | ((with_reducible refine WQ.nilG ?_); intro w hg)
        | ((with_reducible refine WQ.cid ?_); first | refine WQ.xG ?_ | refine WQ.pure ?_)
        | ((with_reducible refine WQ.gid ?_); first | refine WQ.on rfl ?_ | refine WQ.offN rfl rfl ?_)
        | ((with_reducible refine WO.cid ?_); first
          | refine WO.x ?_ | (refine op_alloc hg ?_; clear hg; intro b w hg; refine WO.fr ?_) | (refine op_boxA hg ?_; clear hg; intro b w hg; refine WO.fr ?_) | (refine op_box1 hg ?_; clear hg; intro b w hg; refine WO.fr ?_)
          | (refine op_store hg ?_; clear hg; intro w hg; refine WO.fr ?_; try simp only [List.set_cons_succ, List.set_cons_zero] at hg)
          | (refine op_storeA hg ?_; clear hg; intro w hg; refine WO.fr ?_; try simp only [over, List.take_zero, List.take_succ_cons, List.drop_zero, List.drop_succ_cons, List.nil_append, List.cons_append, List.append_nil, List.length_cons, List.length_nil, Nat.zero_add, Nat.reduceAdd, splice, cellsL] at hg)
          | (refine op_pure hg ?_; clear hg; intro w hg; refine WO.fr ?_) | (refine op_pureB hg ?_; clear hg; intro w hg c hc; cases c <;> refine WO.fr ?_))
        | ((with_reducible refine WO.gid ?_); first | refine WO.on rfl ?_ | refine WO.offN rfl rfl ?_))
      have hl : evs.length + 1 = (evs ++ [e]).length := by simp
      rw [show 0 + evs.length + 1 = evs.length + 1 from by omega] at hO1
      rw [hl] at hg hO1
      refine ret1 rfl ⟨_, rfl, ⟨a2, c2, f2, rfl, by simpa using hO1⟩, (hg.front 3).unpair.sub (by simp)⟩

set_option maxHeartbeats 4000000 in
theorem HInvoke_spec {pm : Nat} {evs : List Ev} {h : Frag} {w0 : World} (c : Int) (o : AOp) (hO : Owns w0 h) (hL : HF pm evs h) (hn : evs.length ≤ 999) :
    Calls Try.prog 11 #[.pointer (some ⟨pm, 0, none⟩), .int .i64 c, .agg o.enc.toArray] w0 fun x w' => ∃ h',
      x = .returned (if followsB evs ⟨1, cnt1 evs, c, o, Res.none⟩ then .tuple #[.int .i64 (cnt1 evs), .bool true] else .tuple #[.int .i64 0, .bool false]) ∧
      HF pm (if followsB evs ⟨1, cnt1 evs, c, o, Res.none⟩ then evs ++ [⟨1, cnt1 evs, c, o, Res.none⟩] else evs) h' ∧ Goes w0 (keys h) [h'] w' := by
  have hL0 := hL
  obtain ⟨am, cm, fm, rfl, hm⟩ := hL
  have hg := hO.goes.pair
  simp only [AOp.enc]
  refine enter Try.func11 rfl (by simp only [Try.ntmps11, List.length_cons, List.length_nil, Nat.reduceAdd, Nat.reduceSub, List.replicate_succ, List.replicate_zero, List.cons_append, List.nil_append]; exact rfl) ?_
  repeat' (first
    | with_reducible refine QX.next ?_ | with_reducible refine WC.seq ?_ | with_reducible refine WC.region ?_ | with_reducible refine WC.block ?_ | with_reducible refine QX.bnorm ?_ | with_reducible refine QX.bret ?_ | with_reducible refine QX.ret ?_ | with_reducible refine QX.exit ?_ | with_reducible refine QX.bsame ?_ | with_reducible refine QX.bother rfl ?_
    | with_reducible refine WO.nil ?_ | with_reducible refine WC.skip ?_ | with_reducible refine WC.ret ?_ | with_reducible refine WC.exit ?_ | ((with_reducible refine WC.id ?_); first | refine WC.condT rfl ?_ | refine WC.condF rfl ?_)
    | (refine WC.quietG hg ?_; clear hg) | ((with_reducible refine WQ.nilG ?_); intro w hg)
    | ((with_reducible refine WQ.cid ?_); first | refine WQ.xG ?_ | refine WQ.pure ?_)
    | ((with_reducible refine WQ.gid ?_); first | refine WQ.on rfl ?_ | refine WQ.offN rfl rfl ?_)
    | ((with_reducible refine WO.cid ?_); first
      | refine WO.x ?_ | (refine op_alloc hg ?_; clear hg; intro b w hg; refine WO.fr ?_) | (refine op_boxA hg ?_; clear hg; intro b w hg; refine WO.fr ?_) | (refine op_box1 hg ?_; clear hg; intro b w hg; refine WO.fr ?_)
      | (refine op_store hg ?_; clear hg; intro w hg; refine WO.fr ?_; try simp only [List.set_cons_succ, List.set_cons_zero] at hg)
      | (refine op_storeA hg ?_; clear hg; intro w hg; refine WO.fr ?_; try simp only [over, List.take_zero, List.take_succ_cons, List.drop_zero, List.drop_succ_cons, List.nil_append, List.cons_append, List.append_nil, List.length_cons, List.length_nil, Nat.zero_add, Nat.reduceAdd, splice, cellsL] at hg)
      | (refine op_pure hg ?_; clear hg; intro w hg; refine WO.fr ?_) | (refine op_pureB hg ?_; clear hg; intro w hg c hc; cases c <;> refine WO.fr ?_))
    | ((with_reducible refine WO.gid ?_); first | refine WO.on rfl ?_ | refine WO.offN rfl rfl ?_))
  refine WC.loopS [8, 9, 10, 11, 12, 13, 14, 15, 16, 17, 18, 19, 20, 21, 22, 23, 24, 25, 26, 27, 28, 29] (fun xs d w => ∃ i : Nat, d = [] ∧ i ≤ evs.length ∧ (gt xs 1) = .int .i64 i ∧ (gt xs 0) = .int .i64 (cnt1 (evs.take i)) ∧ Goes w0 (keys ([(pm, .cells [.slice am evs.length cm].toArray 30 (0, 0))] ++ fm)) [[(b, .cells [.int .i64 o.kind, .int .i64 o.n, .string o.data].toArray 32 (0, 0))], [(pm, .cells [.slice am evs.length cm].toArray 30 (0, 0))], fm] w) (fun xs _ _ => evs.length - (intOf (gt xs 1)).toNat) ?_ ?_
  · exact ⟨0, rfl, Nat.zero_le _, rfl, rfl, hg⟩
  clear hg
  intro xs d w hlen hI K hK
  replace hlen := len_cons hlen
  obtain ⟨x8, xs, rfl, hlen⟩ := hlen
  replace hlen := len_cons hlen
  obtain ⟨x9, xs, rfl, hlen⟩ := hlen
  replace hlen := len_cons hlen
  obtain ⟨x10, xs, rfl, hlen⟩ := hlen
  replace hlen := len_cons hlen
  obtain ⟨x11, xs, rfl, hlen⟩ := hlen
  replace hlen := len_cons hlen
  obtain ⟨x12, xs, rfl, hlen⟩ := hlen
  replace hlen := len_cons hlen
  obtain ⟨x13, xs, rfl, hlen⟩ := hlen
  replace hlen := len_cons hlen
  obtain ⟨x14, xs, rfl, hlen⟩ := hlen
  replace hlen := len_cons hlen
  obtain ⟨x15, xs, rfl, hlen⟩ := hlen
  replace hlen := len_cons hlen
  obtain ⟨x16, xs, rfl, hlen⟩ := hlen
  replace hlen := len_cons hlen
  obtain ⟨x17, xs, rfl, hlen⟩ := hlen
  replace hlen := len_cons hlen
  obtain ⟨x18, xs, rfl, hlen⟩ := hlen
  replace hlen := len_cons hlen
  obtain ⟨x19, xs, rfl, hlen⟩ := hlen
  replace hlen := len_cons hlen
  obtain ⟨x20, xs, rfl, hlen⟩ := hlen
  replace hlen := len_cons hlen
  obtain ⟨x21, xs, rfl, hlen⟩ := hlen
  replace hlen := len_cons hlen
  obtain ⟨x22, xs, rfl, hlen⟩ := hlen
  replace hlen := len_cons hlen
  obtain ⟨x23, xs, rfl, hlen⟩ := hlen
  replace hlen := len_cons hlen
  obtain ⟨x24, xs, rfl, hlen⟩ := hlen
  replace hlen := len_cons hlen
  obtain ⟨x25, xs, rfl, hlen⟩ := hlen
  replace hlen := len_cons hlen
  obtain ⟨x26, xs, rfl, hlen⟩ := hlen
  replace hlen := len_cons hlen
  obtain ⟨x27, xs, rfl, hlen⟩ := hlen
  replace hlen := len_cons hlen
  obtain ⟨x28, xs, rfl, hlen⟩ := hlen
  replace hlen := len_cons hlen
  obtain ⟨x29, xs, rfl, hlen⟩ := hlen
  replace hlen := len_nil hlen
  subst hlen
  refine WC.frame (by simp only [setAll, List.set_cons_succ, List.set_cons_zero]; exact rfl) ?_
  simp only [gt] at hI
  obtain ⟨i, rfl, hi, rfl, rfl, hg⟩ := hI
  have hc1 := cnt1_le (evs.take i)
  simp only [List.length_take] at hc1
  by_cases hlt : i < evs.length
  · have hcs := cnt1_snoc evs i hlt
    obtain ⟨g, A, B, rfl, rfl, hA, _⟩ := hm.split Ev.enc_len (List.getElem?_eq_getElem hlt)
    have k0 : (A ++ (evs[i].enc ++ B))[i * 14]? = some (.int .i64 evs[i].kind) := mid_get0 hA rfl
    by_cases hk : evs[i].kind = 1
    · rw [if_pos hk] at hcs
      repeat' (first
        | with_reducible refine QX.next ?_ | with_reducible refine WC.seq ?_ | with_reducible refine WC.region ?_ | with_reducible refine WC.block ?_ | with_reducible refine QX.bnorm ?_ | with_reducible refine QX.bret ?_ | with_reducible refine QX.ret ?_ | with_reducible refine QX.exit ?_ | with_reducible refine QX.bsame ?_ | with_reducible refine QX.bother rfl ?_
        | with_reducible refine WO.nil ?_ | with_reducible refine WC.skip ?_ | with_reducible refine WC.ret ?_ | with_reducible refine WC.exit ?_ | ((with_reducible refine WC.id ?_); first | refine WC.condT rfl ?_ | refine WC.condF rfl ?_)
        | (refine WC.quietG hg ?_; clear hg) | ((with_reducible refine WQ.nilG ?_); intro w hg)
        | ((with_reducible refine WQ.cid ?_); first | refine WQ.xG ?_ | refine WQ.pure ?_)
        | ((with_reducible refine WQ.gid ?_); first | refine WQ.on rfl ?_ | refine WQ.offN rfl rfl ?_)
        | ((with_reducible refine WO.cid ?_); first
          | refine WO.x ?_ | (refine op_alloc hg ?_; clear hg; intro b w hg; refine WO.fr ?_) | (refine op_boxA hg ?_; clear hg; intro b w hg; refine WO.fr ?_) | (refine op_box1 hg ?_; clear hg; intro b w hg; refine WO.fr ?_)
          | (refine op_store hg ?_; clear hg; intro w hg; refine WO.fr ?_; try simp only [List.set_cons_succ, List.set_cons_zero] at hg)
          | (refine op_storeA hg ?_; clear hg; intro w hg; refine WO.fr ?_; try simp only [over, List.take_zero, List.take_succ_cons, List.drop_zero, List.drop_succ_cons, List.nil_append, List.cons_append, List.append_nil, List.length_cons, List.length_nil, Nat.zero_add, Nat.reduceAdd, splice, cellsL] at hg)
          | (refine op_pure hg ?_; clear hg; intro w hg; refine WO.fr ?_) | (refine op_pureB hg ?_; clear hg; intro w hg c hc; cases c <;> refine WO.fr ?_))
        | ((with_reducible refine WO.gid ?_); first | refine WO.on rfl ?_ | refine WO.offN rfl rfl ?_))
      with_reducible refine QX.norm ?_
      refine hK _ _ _ ?_ ?_ ?_
      · simp only [setAll, List.map_cons, List.map_nil, gt, List.set_cons_succ, List.set_cons_zero]
      all_goals simp only [List.map_cons, List.map_nil, gt, intOf]
      · exact ⟨i + 1, trivial, hlt, rfl, by rw [hcs]; rfl, hg⟩
      · omega
    · rw [if_neg hk] at hcs
      repeat' (first
        | with_reducible refine QX.next ?_ | with_reducible refine WC.seq ?_ | with_reducible refine WC.region ?_ | with_reducible refine WC.block ?_ | with_reducible refine QX.bnorm ?_ | with_reducible refine QX.bret ?_ | with_reducible refine QX.ret ?_ | with_reducible refine QX.exit ?_ | with_reducible refine QX.bsame ?_ | with_reducible refine QX.bother rfl ?_
        | with_reducible refine WO.nil ?_ | with_reducible refine WC.skip ?_ | with_reducible refine WC.ret ?_ | with_reducible refine WC.exit ?_ | ((with_reducible refine WC.id ?_); first | refine WC.condT rfl ?_ | refine WC.condF rfl ?_)
        | (refine WC.quietG hg ?_; clear hg) | ((with_reducible refine WQ.nilG ?_); intro w hg)
        | ((with_reducible refine WQ.cid ?_); first | refine WQ.xG ?_ | refine WQ.pure ?_)
        | ((with_reducible refine WQ.gid ?_); first | refine WQ.on rfl ?_ | refine WQ.offN rfl rfl ?_)
        | ((with_reducible refine WO.cid ?_); first
          | refine WO.x ?_ | (refine op_alloc hg ?_; clear hg; intro b w hg; refine WO.fr ?_) | (refine op_boxA hg ?_; clear hg; intro b w hg; refine WO.fr ?_) | (refine op_box1 hg ?_; clear hg; intro b w hg; refine WO.fr ?_)
          | (refine op_store hg ?_; clear hg; intro w hg; refine WO.fr ?_; try simp only [List.set_cons_succ, List.set_cons_zero] at hg)
          | (refine op_storeA hg ?_; clear hg; intro w hg; refine WO.fr ?_; try simp only [over, List.take_zero, List.take_succ_cons, List.drop_zero, List.drop_succ_cons, List.nil_append, List.cons_append, List.append_nil, List.length_cons, List.length_nil, Nat.zero_add, Nat.reduceAdd, splice, cellsL] at hg)
          | (refine op_pure hg ?_; clear hg; intro w hg; refine WO.fr ?_) | (refine op_pureB hg ?_; clear hg; intro w hg c hc; cases c <;> refine WO.fr ?_))
        | ((with_reducible refine WO.gid ?_); first | refine WO.on rfl ?_ | refine WO.offN rfl rfl ?_))
      with_reducible refine QX.norm ?_
      refine hK _ _ _ ?_ ?_ ?_
      · simp only [setAll, List.map_cons, List.map_nil, gt, List.set_cons_succ, List.set_cons_zero]
      all_goals simp only [List.map_cons, List.map_nil, gt, intOf]
      · exact ⟨i + 1, trivial, hlt, rfl, by rw [hcs]; rfl, hg⟩
      · omega
  · have hie : evs.take i = evs := List.take_of_length_le (by omega)
    rw [hie]
    repeat' (first
      | with_reducible refine QX.next ?_ | with_reducible refine WC.seq ?_ | with_reducible refine WC.region ?_ | with_reducible refine WC.block ?_ | with_reducible refine QX.bnorm ?_ | with_reducible refine QX.bret ?_ | with_reducible refine QX.ret ?_ | with_reducible refine QX.exit ?_ | with_reducible refine QX.bsame ?_ | with_reducible refine QX.bother rfl ?_
      | with_reducible refine WO.nil ?_ | with_reducible refine WC.skip ?_ | with_reducible refine WC.ret ?_ | with_reducible refine WC.exit ?_ | ((with_reducible refine WC.id ?_); first | refine WC.condT rfl ?_ | refine WC.condF rfl ?_)
      | (refine WC.quietG hg ?_; clear hg) | ((with_reducible refine WQ.nilG ?_); intro w hg)
      | ((with_reducible refine WQ.cid ?_); first | refine WQ.xG ?_ | refine WQ.pure ?_)
      | ((with_reducible refine WQ.gid ?_); first | refine WQ.on rfl ?_ | refine WQ.offN rfl rfl ?_)
      | ((with_reducible refine WO.cid ?_); first
        | refine WO.x ?_ | (refine op_alloc hg ?_; clear hg; intro b w hg; refine WO.fr ?_) | (refine op_boxA hg ?_; clear hg; intro b w hg; refine WO.fr ?_) | (refine op_box1 hg ?_; clear hg; intro b w hg; refine WO.fr ?_)
        | (refine op_store hg ?_; clear hg; intro w hg; refine WO.fr ?_; try simp only [List.set_cons_succ, List.set_cons_zero] at hg)
        | (refine op_storeA hg ?_; clear hg; intro w hg; refine WO.fr ?_; try simp only [over, List.take_zero, List.take_succ_cons, List.drop_zero, List.drop_succ_cons, List.nil_append, List.cons_append, List.append_nil, List.length_cons, List.length_nil, Nat.zero_add, Nat.reduceAdd, splice, cellsL] at hg)
        | (refine op_pure hg ?_; clear hg; intro w hg; refine WO.fr ?_) | (refine op_pureB hg ?_; clear hg; intro w hg c hc; cases c <;> refine WO.fr ?_))
      | ((with_reducible refine WO.gid ?_); first | refine WO.on rfl ?_ | refine WO.offN rfl rfl ?_))
    replace hg := ((hg.front 2).front 2).unpair
    refine op_call (Hput_spec ⟨1, cnt1 evs, c, o, Res.none⟩ hg.owns1 hL0 hn) ?_
    rintro _ w2 ⟨h', rfl, hL', hg2⟩
    replace hg := hg.callF hg2
    clear hg2
    refine ⟨_, rfl, ?_⟩
    refine WO.fr ?_
    cases hf : followsB evs ⟨1, cnt1 evs, c, o, Res.none⟩ with
    | true =>
      rw [hf] at hL'
      repeat' (first
        | with_reducible refine QX.next ?_ | with_reducible refine WC.seq ?_ | with_reducible refine WC.region ?_ | with_reducible refine WC.block ?_ | with_reducible refine QX.bnorm ?_ | with_reducible refine QX.bret ?_ | with_reducible refine QX.ret ?_ | with_reducible refine QX.exit ?_ | with_reducible refine QX.bsame ?_ | with_reducible refine QX.bother rfl ?_
        | with_reducible refine WO.nil ?_ | with_reducible refine WC.skip ?_ | with_reducible refine WC.ret ?_ | with_reducible refine WC.exit ?_ | ((with_reducible refine WC.id ?_); first | refine WC.condT rfl ?_ | refine WC.condF rfl ?_)
        | (refine WC.quietG hg ?_; clear hg) | ((with_reducible refine WQ.nilG ?_); intro w hg)
        | ((with_reducible refine WQ.cid ?_); first | refine WQ.xG ?_ | refine WQ.pure ?_)
        | ((with_reducible refine WQ.gid ?_); first | refine WQ.on rfl ?_ | refine WQ.offN rfl rfl ?_)
        | ((with_reducible refine WO.cid ?_); first
          | refine WO.x ?_ | (refine op_alloc hg ?_; clear hg; intro b w hg; refine WO.fr ?_) | (refine op_boxA hg ?_; clear hg; intro b w hg; refine WO.fr ?_) | (refine op_box1 hg ?_; clear hg; intro b w hg; refine WO.fr ?_)
          | (refine op_store hg ?_; clear hg; intro w hg; refine WO.fr ?_; try simp only [List.set_cons_succ, List.set_cons_zero] at hg)
          | (refine op_storeA hg ?_; clear hg; intro w hg; refine WO.fr ?_; try simp only [over, List.take_zero, List.take_succ_cons, List.drop_zero, List.drop_succ_cons, List.nil_append, List.cons_append, List.append_nil, List.length_cons, List.length_nil, Nat.zero_add, Nat.reduceAdd, splice, cellsL] at hg)
          | (refine op_pure hg ?_; clear hg; intro w hg; refine WO.fr ?_) | (refine op_pureB hg ?_; clear hg; intro w hg c hc; cases c <;> refine WO.fr ?_))
        | ((with_reducible refine WO.gid ?_); first | refine WO.on rfl ?_ | refine WO.offN rfl rfl ?_))
      exact ret2 rfl ⟨h', rfl, hL', hg.sub (by simp)⟩
    | false =>
      rw [hf] at hL'
      repeat' (first
        | with_reducible refine QX.next ?_ | with_reducible refine WC.seq ?_ | with_reducible refine WC.region ?_ | with_reducible refine WC.block ?_ | with_reducible refine QX.bnorm ?_ | with_reducible refine QX.bret ?_ | with_reducible refine QX.ret ?_ | with_reducible refine QX.exit ?_ | with_reducible refine QX.bsame ?_ | with_reducible refine QX.bother rfl ?_
        | with_reducible refine WO.nil ?_ | with_reducible refine WC.skip ?_ | with_reducible refine WC.ret ?_ | with_reducible refine WC.exit ?_ | ((with_reducible refine WC.id ?_); first | refine WC.condT rfl ?_ | refine WC.condF rfl ?_)
        | (refine WC.quietG hg ?_; clear hg) | ((with_reducible refine WQ.nilG ?_); intro w hg)
        | ((with_reducible refine WQ.cid ?_); first | refine WQ.xG ?_ | refine WQ.pure ?_)
        | ((with_reducible refine WQ.gid ?_); first | refine WQ.on rfl ?_ | refine WQ.offN rfl rfl ?_)
        | ((with_reducible refine WO.cid ?_); first
          | refine WO.x ?_ | (refine op_alloc hg ?_; clear hg; intro b w hg; refine WO.fr ?_) | (refine op_boxA hg ?_; clear hg; intro b w hg; refine WO.fr ?_) | (refine op_box1 hg ?_; clear hg; intro b w hg; refine WO.fr ?_)
          | (refine op_store hg ?_; clear hg; intro w hg; refine WO.fr ?_; try simp only [List.set_cons_succ, List.set_cons_zero] at hg)
          | (refine op_storeA hg ?_; clear hg; intro w hg; refine WO.fr ?_; try simp only [over, List.take_zero, List.take_succ_cons, List.drop_zero, List.drop_succ_cons, List.nil_append, List.cons_append, List.append_nil, List.length_cons, List.length_nil, Nat.zero_add, Nat.reduceAdd, splice, cellsL] at hg)
          | (refine op_pure hg ?_; clear hg; intro w hg; refine WO.fr ?_) | (refine op_pureB hg ?_; clear hg; intro w hg c hc; cases c <;> refine WO.fr ?_))
        | ((with_reducible refine WO.gid ?_); first | refine WO.on rfl ?_ | refine WO.offN rfl rfl ?_))
      exact ret2 rfl ⟨h', rfl, hL', hg.sub (by simp)⟩

/-- What the document's Later comes to. -/
def laterB (evs : List Ev) (k id : Int) (r : Res) : Option Ev := match evs.find? (isEv 1 id) with
  | none => none
  | some v => if followsB evs ⟨k, id, v.client, v.op, r⟩ then some ⟨k, id, v.client, v.op, r⟩ else none

set_option maxHeartbeats 4000000 in
theorem Later_spec {pm : Nat} {evs : List Ev} {h : Frag} {w0 : World} (k id : Int) (r : Res) (hO : Owns w0 h) (hL : HF pm evs h) (hn : evs.length ≤ 999) :
    Calls Try.prog 13 #[.pointer (some ⟨pm, 0, none⟩), .int .i64 k, .int .i64 id, .agg r.enc.toArray] w0 fun x w' => ∃ h',
      x = .returned (.bool (laterB evs k id r).isSome) ∧ HF pm (evs ++ (laterB evs k id r).toList) h' ∧ Goes w0 (keys h) [h'] w' := by
  have hL0 := hL
  obtain ⟨am, cm, fm, rfl, hm⟩ := hL
  have hg := hO.goes.pair
  simp only [Res.enc]
  rcases hasV_cases evs 1 id 0 with ⟨hv, hf⟩ | ⟨i, v, hv, _, hx, hf⟩
  · have p1 : ∀ {w : World} {x : Frag}, Goes w0 (keys ([(pm, .cells [.slice am evs.length cm].toArray 30 (0, 0))] ++ fm)) [x, [(pm, .cells [.slice am evs.length cm].toArray 30 (0, 0))], fm] w → Calls Try.prog 30 #[.slice am evs.length cm, .int .i64 1, .int .i64 id, .int .i64 0] w _ := fun h => Has0_spec hv (evs_own hm (h.front 2) rfl (by omega))
    simp only [List.drop_zero] at hf
    refine enter Try.func13 rfl (by simp only [Try.ntmps13, List.length_cons, List.length_nil, Nat.reduceAdd, Nat.reduceSub, List.replicate_succ, List.replicate_zero, List.cons_append, List.nil_append]; exact rfl) ?_
    repeat' (first
      | with_reducible refine QX.next ?_ | with_reducible refine WC.seq ?_ | with_reducible refine WC.region ?_ | with_reducible refine WC.block ?_ | with_reducible refine QX.bnorm ?_ | with_reducible refine QX.bret ?_ | with_reducible refine QX.ret ?_ | with_reducible refine QX.exit ?_ | with_reducible refine QX.bsame ?_ | with_reducible refine QX.bother rfl ?_
      | with_reducible refine WO.nil ?_ | with_reducible refine WC.skip ?_ | with_reducible refine WC.ret ?_ | with_reducible refine WC.exit ?_ | ((with_reducible refine WC.id ?_); first | refine WC.condT rfl ?_ | refine WC.condF rfl ?_)
      | (refine WC.quietG hg ?_; clear hg) | ((with_reducible refine WQ.nilG ?_); intro w hg)
      | ((with_reducible refine WQ.cid ?_); first | refine WQ.xG ?_ | refine WQ.pure ?_)
      | ((with_reducible refine WQ.gid ?_); first | refine WQ.on rfl ?_ | refine WQ.offN rfl rfl ?_)
      | ((with_reducible refine WO.cid ?_); first
        | refine WO.x ?_ | (refine op_alloc hg ?_; clear hg; intro b w hg; refine WO.fr ?_) | (refine op_boxA hg ?_; clear hg; intro b w hg; refine WO.fr ?_) | (refine op_box1 hg ?_; clear hg; intro b w hg; refine WO.fr ?_)
        | (refine op_store hg ?_; clear hg; intro w hg; refine WO.fr ?_; try simp only [List.set_cons_succ, List.set_cons_zero] at hg)
        | (refine op_storeA hg ?_; clear hg; intro w hg; refine WO.fr ?_; try simp only [over, List.take_zero, List.take_succ_cons, List.drop_zero, List.drop_succ_cons, List.nil_append, List.cons_append, List.append_nil, List.length_cons, List.length_nil, Nat.zero_add, Nat.reduceAdd, splice, cellsL] at hg)
        | (refine op_pure hg ?_; clear hg; intro w hg; refine WO.fr ?_) | (refine op_pureB hg ?_; clear hg; intro w hg c hc; cases c <;> refine WO.fr ?_))
      | ((with_reducible refine WO.gid ?_); first | refine WO.on rfl ?_ | refine WO.offN rfl rfl ?_))
    exact ret1 rfl ⟨_, by simp [gt, laterB, hf], by simpa [laterB, hf] using hL0, hg.unpair.sub (by simp)⟩
  · simp only [List.drop_zero] at hf
    have hlt := (List.getElem?_eq_some_iff.1 hx).1
    obtain ⟨g, A, B, rfl, rfl, hA, _⟩ := hm.split Ev.enc_len hx
    have p1 : ∀ {w : World} {x : Frag}, Goes w0 (keys ([(pm, .cells [.slice (some ⟨g, 0, none⟩) evs.length cm].toArray 30 (0, 0))] ++ [(g, .cells (List.toArray (A ++ (v.enc ++ B))) 58 (0, 0))])) [x, [(pm, .cells [.slice (some ⟨g, 0, none⟩) evs.length cm].toArray 30 (0, 0))], [(g, .cells (List.toArray (A ++ (v.enc ++ B))) 58 (0, 0))]] w → Calls Try.prog 30 #[.slice (some ⟨g, 0, none⟩) evs.length cm, .int .i64 1, .int .i64 id, .int .i64 0] w _ := fun h => Has0_spec hv (evs_own hm (h.front 2) rfl (by omega))
    refine enter Try.func13 rfl (by simp only [Try.ntmps13, List.length_cons, List.length_nil, Nat.reduceAdd, Nat.reduceSub, List.replicate_succ, List.replicate_zero, List.cons_append, List.nil_append]; exact rfl) ?_
    repeat' (first
      | with_reducible refine QX.next ?_ | with_reducible refine WC.seq ?_ | with_reducible refine WC.region ?_ | with_reducible refine WC.block ?_ | with_reducible refine QX.bnorm ?_ | with_reducible refine QX.bret ?_ | with_reducible refine QX.ret ?_ | with_reducible refine QX.exit ?_ | with_reducible refine QX.bsame ?_ | with_reducible refine QX.bother rfl ?_
      | with_reducible refine WO.nil ?_ | with_reducible refine WC.skip ?_ | with_reducible refine WC.ret ?_ | with_reducible refine WC.exit ?_ | ((with_reducible refine WC.id ?_); first | refine WC.condT rfl ?_ | refine WC.condF rfl ?_)
      | ((with_reducible refine WQ.cid ?_); first | refine WQ.xG ?_ | refine WQ.pure ?_)
      | ((with_reducible refine WQ.gid ?_); first | refine WQ.on rfl ?_ | refine WQ.offN rfl rfl ?_)
      | ((with_reducible refine WO.cid ?_); first
        | refine WO.x ?_ | (refine op_alloc hg ?_; clear hg; intro b w hg; refine WO.fr ?_) | (refine op_boxA hg ?_; clear hg; intro b w hg; refine WO.fr ?_) | (refine op_box1 hg ?_; clear hg; intro b w hg; refine WO.fr ?_)
        | (refine op_store hg ?_; clear hg; intro w hg; refine WO.fr ?_; try simp only [List.set_cons_succ, List.set_cons_zero] at hg)
        | (refine op_storeA hg ?_; clear hg; intro w hg; refine WO.fr ?_; try simp only [over, List.take_zero, List.take_succ_cons, List.drop_zero, List.drop_succ_cons, List.nil_append, List.cons_append, List.append_nil, List.length_cons, List.length_nil, Nat.zero_add, Nat.reduceAdd, splice, cellsL] at hg)
        | (refine op_pure hg ?_; clear hg; intro w hg; refine WO.fr ?_) | (refine op_pureB hg ?_; clear hg; intro w hg c hc; cases c <;> refine WO.fr ?_))
      | ((with_reducible refine WO.gid ?_); first | refine WO.on rfl ?_ | refine WO.offN rfl rfl ?_))
    have s1 : ∀ {w : World}, (w.heap[pm]? = some (.cells [.slice (some ⟨g, 0, none⟩) evs.length cm].toArray 30 (0, 0)) ∧ w.heap[g]? = some (.cells (List.toArray (A ++ (v.enc ++ B))) 58 (0, 0)) ∧ w.heap[b]? = some (.cells (List.toArray [.int .i64 r.e, .int .i64 r.n, .int .i64 r.k1, .int .i64 r.k2, .int .i64 r.k3, .int .i64 r.k4, .int .i64 r.k5, .int .i64 r.k6]) 37 (0, 0))) → w.cell? ⟨pm, 0, none⟩ = some (.slice (some ⟨g, 0, none⟩) evs.length cm) := fun h => heap_cell h.1 rfl
    have s2 : ∀ {w : World}, (w.heap[pm]? = some (.cells [.slice (some ⟨g, 0, none⟩) evs.length cm].toArray 30 (0, 0)) ∧ w.heap[g]? = some (.cells (List.toArray (A ++ (v.enc ++ B))) 58 (0, 0)) ∧ w.heap[b]? = some (.cells (List.toArray [.int .i64 r.e, .int .i64 r.n, .int .i64 r.k1, .int .i64 r.k2, .int .i64 r.k3, .int .i64 r.k4, .int .i64 r.k5, .int .i64 r.k6]) 37 (0, 0))) → w.cell? ⟨g, i * 14 + 2, none⟩ = some (.int .i64 v.client) := fun h => heap_cell h.2.1 (mid_get hA rfl)
    have t1 : ∀ {w : World}, (w.heap[pm]? = some (.cells [.slice (some ⟨g, 0, none⟩) evs.length cm].toArray 30 (0, 0)) ∧ w.heap[g]? = some (.cells (List.toArray (A ++ (v.enc ++ B))) 58 (0, 0)) ∧ w.heap[b]? = some (.cells (List.toArray [.int .i64 r.e, .int .i64 r.n, .int .i64 r.k1, .int .i64 r.k2, .int .i64 r.k3, .int .i64 r.k4, .int .i64 r.k5, .int .i64 r.k6]) 37 (0, 0))) → Cells w ⟨g, i * 14 + 3, none⟩ [.int .i64 v.op.kind, .int .i64 v.op.n, .string v.op.data] := fun h => heap_cells h.2.1 (mid_part hA rfl (by simp [Ev.enc]))
    have t2 : ∀ {w : World}, (w.heap[pm]? = some (.cells [.slice (some ⟨g, 0, none⟩) evs.length cm].toArray 30 (0, 0)) ∧ w.heap[g]? = some (.cells (List.toArray (A ++ (v.enc ++ B))) 58 (0, 0)) ∧ w.heap[b]? = some (.cells (List.toArray [.int .i64 r.e, .int .i64 r.n, .int .i64 r.k1, .int .i64 r.k2, .int .i64 r.k3, .int .i64 r.k4, .int .i64 r.k5, .int .i64 r.k6]) 37 (0, 0))) → Cells w ⟨b, 0, none⟩ [.int .i64 r.e, .int .i64 r.n, .int .i64 r.k1, .int .i64 r.k2, .int .i64 r.k3, .int .i64 r.k4, .int .i64 r.k5, .int .i64 r.k6] := fun h => heap_cells h.2.2 rfl
    refine WC.drawn (fun w => w.heap[pm]? = some (.cells [.slice (some ⟨g, 0, none⟩) evs.length cm].toArray 30 (0, 0)) ∧ w.heap[g]? = some (.cells (List.toArray (A ++ (v.enc ++ B))) 58 (0, 0)) ∧ w.heap[b]? = some (.cells (List.toArray [.int .i64 r.e, .int .i64 r.n, .int .i64 r.k1, .int .i64 r.k2, .int .i64 r.k3, .int .i64 r.k4, .int .i64 r.k5, .int .i64 r.k6]) 37 (0, 0))) [21, 22] hg ?_
    clear hg
    intro w hg
    have hS : (fun w => w.heap[pm]? = some (.cells [.slice (some ⟨g, 0, none⟩) evs.length cm].toArray 30 (0, 0)) ∧ w.heap[g]? = some (.cells (List.toArray (A ++ (v.enc ++ B))) 58 (0, 0)) ∧ w.heap[b]? = some (.cells (List.toArray [.int .i64 r.e, .int .i64 r.n, .int .i64 r.k1, .int .i64 r.k2, .int .i64 r.k3, .int .i64 r.k4, .int .i64 r.k5, .int .i64 r.k6]) 37 (0, 0))) w := ⟨hg.own (pm, _) (by simp), hg.own (g, _) (by simp), hg.own (b, _) (by simp)⟩
    refine WA.pass 0 hS ?_
    refine WA.pass 1 hS ?_
    refine WA.pass 2 hS ?_
    refine WA.pass 3 hS ?_
    refine WA.pass 4 hS ?_
    refine WA.pass 5 hS ?_
    refine WA.pass 7 hS ?_
    refine WA.pass 11 hS ?_
    refine WA.pass 12 hS ?_
    refine WA.pass 13 hS ?_
    refine WA.pass 15 hS ?_
    refine WA.passS 6 hS ?_
    refine WA.pass 8 hS ?_
    refine WA.pass 9 hS ?_
    refine WA.passS 10 hS ?_
    refine WA.passS 14 hS ?_
    refine WA.pass 16 hS ?_
    refine WA.pass 17 hS ?_
    refine WA.passS 18 hS ?_
    refine WA.passS 19 hS ?_
    refine WA.pass 20 hS ?_
    refine WA.only 21 ?_
    replace hg := ((hg.front 2).front 2).unpair
    refine op_call (Hput_spec ⟨k, id, v.client, v.op, r⟩ hg.owns1 hL0 hn) ?_
    rintro _ w2 ⟨h', rfl, hL', hg2⟩
    replace hg := hg.callF hg2
    clear hg2 hS
    refine ⟨_, rfl, ?_⟩
    refine WO.fr ?_
    refine WO.nilL ?_
    refine WA.passL 22 ?_
    refine WA.nil ?_
    repeat' (first
      | with_reducible refine QX.next ?_ | with_reducible refine WC.seq ?_ | with_reducible refine WC.region ?_ | with_reducible refine WC.block ?_ | with_reducible refine QX.bnorm ?_ | with_reducible refine QX.bret ?_ | with_reducible refine QX.ret ?_ | with_reducible refine QX.exit ?_ | with_reducible refine QX.bsame ?_ | with_reducible refine QX.bother rfl ?_
      | with_reducible refine WO.nil ?_ | with_reducible refine WC.skip ?_ | with_reducible refine WC.ret ?_ | with_reducible refine WC.exit ?_ | ((with_reducible refine WC.id ?_); first | refine WC.condT rfl ?_ | refine WC.condF rfl ?_)
      | (refine WC.quietG hg ?_; clear hg) | ((with_reducible refine WQ.nilG ?_); intro w hg)
      | ((with_reducible refine WQ.cid ?_); first | refine WQ.xG ?_ | refine WQ.pure ?_)
      | ((with_reducible refine WQ.gid ?_); first | refine WQ.on rfl ?_ | refine WQ.offN rfl rfl ?_)
      | ((with_reducible refine WO.cid ?_); first
        | refine WO.x ?_ | (refine op_alloc hg ?_; clear hg; intro b w hg; refine WO.fr ?_) | (refine op_boxA hg ?_; clear hg; intro b w hg; refine WO.fr ?_) | (refine op_box1 hg ?_; clear hg; intro b w hg; refine WO.fr ?_)
        | (refine op_store hg ?_; clear hg; intro w hg; refine WO.fr ?_; try simp only [List.set_cons_succ, List.set_cons_zero] at hg)
        | (refine op_storeA hg ?_; clear hg; intro w hg; refine WO.fr ?_; try simp only [over, List.take_zero, List.take_succ_cons, List.drop_zero, List.drop_succ_cons, List.nil_append, List.cons_append, List.append_nil, List.length_cons, List.length_nil, Nat.zero_add, Nat.reduceAdd, splice, cellsL] at hg)
        | (refine op_pure hg ?_; clear hg; intro w hg; refine WO.fr ?_) | (refine op_pureB hg ?_; clear hg; intro w hg c hc; cases c <;> refine WO.fr ?_))
      | ((with_reducible refine WO.gid ?_); first | refine WO.on rfl ?_ | refine WO.offN rfl rfl ?_))
    cases hff : followsB evs ⟨k, id, v.client, v.op, r⟩ with
    | true =>
      rw [hff] at hL'
      exact ret1 rfl ⟨h', by simp [gt, laterB, hf, hff], by simpa [laterB, hf, hff] using hL', hg.sub (by simp)⟩
    | false =>
      rw [hff] at hL'
      exact ret1 rfl ⟨h', by simp [gt, laterB, hf, hff], by simpa [laterB, hf, hff] using hL', hg.sub (by simp)⟩

set_option maxHeartbeats 4000000 in
theorem HOf_spec {pm : Nat} {evs : List Ev} {h : Frag} {w0 : World} (c : Int) (hO : Owns w0 h) (hL : HF pm evs h) (hn : evs.length ≤ 999) :
    Calls Try.prog 16 #[.pointer (some ⟨pm, 0, none⟩), .int .i64 c] w0 fun x w' =>
      x = .returned (match evs.find? (badB evs c) with | some v => .tuple #[.int .i64 v.id, .bool true] | none => .tuple #[.int .i64 0, .bool false]) ∧ Goes w0 (keys h) [h] w' := by
  obtain ⟨am, cm, fm, rfl, hm⟩ := hL
  have hg := hO.goes.pair
  have p0 : ∀ {x id : Int} {w : World}, hasV evs 3 id 0 = x → Goes w0 (keys ([(pm, .cells [.slice am evs.length cm].toArray 30 (0, 0))] ++ fm)) [[(pm, .cells [.slice am evs.length cm].toArray 30 (0, 0))], fm] w → Calls Try.prog 30 #[.slice am evs.length cm, .int .i64 3, .int .i64 id, .int .i64 0] w (fun e w' => e = .returned (.int .i64 x) ∧ Goes w [] [] w') := fun hv h => Has0_spec hv (evs_own hm (h.front 1) rfl (by omega))
  refine enter Try.func16 rfl (by simp only [Try.ntmps16, List.length_cons, List.length_nil, Nat.reduceAdd, Nat.reduceSub, List.replicate_succ, List.replicate_zero, List.cons_append, List.nil_append]; exact rfl) ?_
  repeat' (first
    | with_reducible refine QX.next ?_ | with_reducible refine WC.seq ?_ | with_reducible refine WC.region ?_ | with_reducible refine WC.block ?_ | with_reducible refine QX.bnorm ?_ | with_reducible refine QX.bret ?_ | with_reducible refine QX.ret ?_ | with_reducible refine QX.exit ?_ | with_reducible refine QX.bsame ?_ | with_reducible refine QX.bother rfl ?_
    | with_reducible refine WO.nil ?_ | with_reducible refine WC.skip ?_ | with_reducible refine WC.ret ?_ | with_reducible refine WC.exit ?_ | ((with_reducible refine WC.id ?_); first | refine WC.condT rfl ?_ | refine WC.condF rfl ?_)
    | (refine WC.quietG hg ?_; clear hg) | ((with_reducible refine WQ.nilG ?_); intro w hg)
    | ((with_reducible refine WQ.cid ?_); first | refine WQ.xG ?_ | refine WQ.pure ?_)
    | ((with_reducible refine WQ.gid ?_); first | refine WQ.on rfl ?_ | refine WQ.offN rfl rfl ?_)
    | ((with_reducible refine WO.cid ?_); first
      | refine WO.x ?_ | (refine op_alloc hg ?_; clear hg; intro b w hg; refine WO.fr ?_) | (refine op_boxA hg ?_; clear hg; intro b w hg; refine WO.fr ?_) | (refine op_box1 hg ?_; clear hg; intro b w hg; refine WO.fr ?_)
      | (refine op_store hg ?_; clear hg; intro w hg; refine WO.fr ?_; try simp only [List.set_cons_succ, List.set_cons_zero] at hg)
      | (refine op_storeA hg ?_; clear hg; intro w hg; refine WO.fr ?_; try simp only [over, List.take_zero, List.take_succ_cons, List.drop_zero, List.drop_succ_cons, List.nil_append, List.cons_append, List.append_nil, List.length_cons, List.length_nil, Nat.zero_add, Nat.reduceAdd, splice, cellsL] at hg)
      | (refine op_pure hg ?_; clear hg; intro w hg; refine WO.fr ?_) | (refine op_pureB hg ?_; clear hg; intro w hg c hc; cases c <;> refine WO.fr ?_))
    | ((with_reducible refine WO.gid ?_); first | refine WO.on rfl ?_ | refine WO.offN rfl rfl ?_))
  refine WC.loopS [4, 5, 6, 7, 8, 9, 10, 11, 12, 13, 14, 15, 16, 17, 18, 19, 20, 21, 22, 23, 24, 25, 26, 27, 28, 29, 30, 31, 32, 33, 34, 35, 36, 37, 38, 39, 40, 41, 42, 43, 44, 45, 46, 47, 48, 49, 50, 51, 52, 53, 54, 55, 56, 57, 58, 59, 60] (fun xs d w => ∃ i : Nat, d = [] ∧ i ≤ evs.length ∧ (gt xs 2) = .int .i64 i ∧ evs.find? (badB evs c) = (evs.drop i).find? (badB evs c) ∧ Goes w0 (keys ([(pm, .cells [.slice am evs.length cm].toArray 30 (0, 0))] ++ fm)) [[(pm, .cells [.slice am evs.length cm].toArray 30 (0, 0))], fm] w) (fun xs _ _ => evs.length - (intOf (gt xs 2)).toNat) ?_ ?_
  · exact ⟨0, rfl, Nat.zero_le _, rfl, rfl, hg⟩
  clear hg
  intro xs d w hlen hI K hK
  replace hlen := len_cons hlen
  obtain ⟨x4, xs, rfl, hlen⟩ := hlen
  replace hlen := len_cons hlen
  obtain ⟨x5, xs, rfl, hlen⟩ := hlen
  replace hlen := len_cons hlen
  obtain ⟨x6, xs, rfl, hlen⟩ := hlen
  replace hlen := len_cons hlen
  obtain ⟨x7, xs, rfl, hlen⟩ := hlen
  replace hlen := len_cons hlen
  obtain ⟨x8, xs, rfl, hlen⟩ := hlen
  replace hlen := len_cons hlen
  obtain ⟨x9, xs, rfl, hlen⟩ := hlen
  replace hlen := len_cons hlen
  obtain ⟨x10, xs, rfl, hlen⟩ := hlen
  replace hlen := len_cons hlen
  obtain ⟨x11, xs, rfl, hlen⟩ := hlen
  replace hlen := len_cons hlen
  obtain ⟨x12, xs, rfl, hlen⟩ := hlen
  replace hlen := len_cons hlen
  obtain ⟨x13, xs, rfl, hlen⟩ := hlen
  replace hlen := len_cons hlen
  obtain ⟨x14, xs, rfl, hlen⟩ := hlen
  replace hlen := len_cons hlen
  obtain ⟨x15, xs, rfl, hlen⟩ := hlen
  replace hlen := len_cons hlen
  obtain ⟨x16, xs, rfl, hlen⟩ := hlen
  replace hlen := len_cons hlen
  obtain ⟨x17, xs, rfl, hlen⟩ := hlen
  replace hlen := len_cons hlen
  obtain ⟨x18, xs, rfl, hlen⟩ := hlen
  replace hlen := len_cons hlen
  obtain ⟨x19, xs, rfl, hlen⟩ := hlen
  replace hlen := len_cons hlen
  obtain ⟨x20, xs, rfl, hlen⟩ := hlen
  replace hlen := len_cons hlen
  obtain ⟨x21, xs, rfl, hlen⟩ := hlen
  replace hlen := len_cons hlen
  obtain ⟨x22, xs, rfl, hlen⟩ := hlen
  replace hlen := len_cons hlen
  obtain ⟨x23, xs, rfl, hlen⟩ := hlen
  replace hlen := len_cons hlen
  obtain ⟨x24, xs, rfl, hlen⟩ := hlen
  replace hlen := len_cons hlen
  obtain ⟨x25, xs, rfl, hlen⟩ := hlen
  replace hlen := len_cons hlen
  obtain ⟨x26, xs, rfl, hlen⟩ := hlen
  replace hlen := len_cons hlen
  obtain ⟨x27, xs, rfl, hlen⟩ := hlen
  replace hlen := len_cons hlen
  obtain ⟨x28, xs, rfl, hlen⟩ := hlen
  replace hlen := len_cons hlen
  obtain ⟨x29, xs, rfl, hlen⟩ := hlen
  replace hlen := len_cons hlen
  obtain ⟨x30, xs, rfl, hlen⟩ := hlen
  replace hlen := len_cons hlen
  obtain ⟨x31, xs, rfl, hlen⟩ := hlen
  replace hlen := len_cons hlen
  obtain ⟨x32, xs, rfl, hlen⟩ := hlen
  replace hlen := len_cons hlen
  obtain ⟨x33, xs, rfl, hlen⟩ := hlen
  replace hlen := len_cons hlen
  obtain ⟨x34, xs, rfl, hlen⟩ := hlen
  replace hlen := len_cons hlen
  obtain ⟨x35, xs, rfl, hlen⟩ := hlen
  replace hlen := len_cons hlen
  obtain ⟨x36, xs, rfl, hlen⟩ := hlen
  replace hlen := len_cons hlen
  obtain ⟨x37, xs, rfl, hlen⟩ := hlen
  replace hlen := len_cons hlen
  obtain ⟨x38, xs, rfl, hlen⟩ := hlen
  replace hlen := len_cons hlen
  obtain ⟨x39, xs, rfl, hlen⟩ := hlen
  replace hlen := len_cons hlen
  obtain ⟨x40, xs, rfl, hlen⟩ := hlen
  replace hlen := len_cons hlen
  obtain ⟨x41, xs, rfl, hlen⟩ := hlen
  replace hlen := len_cons hlen
  obtain ⟨x42, xs, rfl, hlen⟩ := hlen
  replace hlen := len_cons hlen
  obtain ⟨x43, xs, rfl, hlen⟩ := hlen
  replace hlen := len_cons hlen
  obtain ⟨x44, xs, rfl, hlen⟩ := hlen
  replace hlen := len_cons hlen
  obtain ⟨x45, xs, rfl, hlen⟩ := hlen
  replace hlen := len_cons hlen
  obtain ⟨x46, xs, rfl, hlen⟩ := hlen
  replace hlen := len_cons hlen
  obtain ⟨x47, xs, rfl, hlen⟩ := hlen
  replace hlen := len_cons hlen
  obtain ⟨x48, xs, rfl, hlen⟩ := hlen
  replace hlen := len_cons hlen
  obtain ⟨x49, xs, rfl, hlen⟩ := hlen
  replace hlen := len_cons hlen
  obtain ⟨x50, xs, rfl, hlen⟩ := hlen
  replace hlen := len_cons hlen
  obtain ⟨x51, xs, rfl, hlen⟩ := hlen
  replace hlen := len_cons hlen
  obtain ⟨x52, xs, rfl, hlen⟩ := hlen
  replace hlen := len_cons hlen
  obtain ⟨x53, xs, rfl, hlen⟩ := hlen
  replace hlen := len_cons hlen
  obtain ⟨x54, xs, rfl, hlen⟩ := hlen
  replace hlen := len_cons hlen
  obtain ⟨x55, xs, rfl, hlen⟩ := hlen
  replace hlen := len_cons hlen
  obtain ⟨x56, xs, rfl, hlen⟩ := hlen
  replace hlen := len_cons hlen
  obtain ⟨x57, xs, rfl, hlen⟩ := hlen
  replace hlen := len_cons hlen
  obtain ⟨x58, xs, rfl, hlen⟩ := hlen
  replace hlen := len_cons hlen
  obtain ⟨x59, xs, rfl, hlen⟩ := hlen
  replace hlen := len_cons hlen
  obtain ⟨x60, xs, rfl, hlen⟩ := hlen
  replace hlen := len_nil hlen
  subst hlen
  refine WC.frame (by simp only [setAll, List.set_cons_succ, List.set_cons_zero]; exact rfl) ?_
  simp only [gt] at hI
  obtain ⟨i, rfl, hi, rfl, hfd, hg⟩ := hI
  by_cases hlt : i < evs.length
  · rw [List.drop_eq_getElem_cons hlt, List.find?_cons] at hfd
    obtain ⟨g, A, B, rfl, rfl, hA, _⟩ := hm.split Ev.enc_len (List.getElem?_eq_getElem hlt)
    have k0 : (A ++ (evs[i].enc ++ B))[i * 14]? = some (.int .i64 evs[i].kind) := mid_get0 hA rfl
    have k1 : (A ++ (evs[i].enc ++ B))[i * 14 + 1]? = some (.int .i64 evs[i].id) := mid_get hA rfl
    have k2 : (A ++ (evs[i].enc ++ B))[i * 14 + 2]? = some (.int .i64 evs[i].client) := mid_get hA rfl
    by_cases hk : evs[i].kind = 1
    · by_cases hcl : evs[i].client = c
      · rcases hasV_cases evs 3 evs[i].id 0 with ⟨hv, hf⟩ | ⟨k, v, hv, _, _, hf⟩
        · have hbad : badB evs c evs[i] = true := by simp only [List.drop_zero] at hf; simp [badB, hk, hcl, hf]
          rw [hbad] at hfd
          have p1 := fun {w} => p0 (w := w) hv
          repeat' (first
            | with_reducible refine QX.next ?_ | with_reducible refine WC.seq ?_ | with_reducible refine WC.region ?_ | with_reducible refine WC.block ?_ | with_reducible refine QX.bnorm ?_ | with_reducible refine QX.bret ?_ | with_reducible refine QX.ret ?_ | with_reducible refine QX.exit ?_ | with_reducible refine QX.bsame ?_ | with_reducible refine QX.bother rfl ?_
            | with_reducible refine WO.nil ?_ | with_reducible refine WC.skip ?_ | with_reducible refine WC.ret ?_ | with_reducible refine WC.exit ?_ | ((with_reducible refine WC.id ?_); first | refine WC.condT rfl ?_ | refine WC.condF rfl ?_)
            | (refine WC.quietG hg ?_; clear hg) | ((with_reducible refine WQ.nilG ?_); intro w hg)
            | ((with_reducible refine WQ.cid ?_); first | refine WQ.xG ?_ | refine WQ.pure ?_)
            | ((with_reducible refine WQ.gid ?_); first | refine WQ.on rfl ?_ | refine WQ.offN rfl rfl ?_)
            | ((with_reducible refine WO.cid ?_); first
              | refine WO.x ?_ | (refine op_alloc hg ?_; clear hg; intro b w hg; refine WO.fr ?_) | (refine op_boxA hg ?_; clear hg; intro b w hg; refine WO.fr ?_) | (refine op_box1 hg ?_; clear hg; intro b w hg; refine WO.fr ?_)
              | (refine op_store hg ?_; clear hg; intro w hg; refine WO.fr ?_; try simp only [List.set_cons_succ, List.set_cons_zero] at hg)
              | (refine op_storeA hg ?_; clear hg; intro w hg; refine WO.fr ?_; try simp only [over, List.take_zero, List.take_succ_cons, List.drop_zero, List.drop_succ_cons, List.nil_append, List.cons_append, List.append_nil, List.length_cons, List.length_nil, Nat.zero_add, Nat.reduceAdd, splice, cellsL] at hg)
              | (refine op_pure hg ?_; clear hg; intro w hg; refine WO.fr ?_) | (refine op_pureB hg ?_; clear hg; intro w hg c hc; cases c <;> refine WO.fr ?_))
            | ((with_reducible refine WO.gid ?_); first | refine WO.on rfl ?_ | refine WO.offN rfl rfl ?_))
          exact ret2 rfl ⟨by rw [hfd]; rfl, hg.unpair⟩
        · have hbad : badB evs c evs[i] = false := by simp only [List.drop_zero] at hf; simp [badB, hf]
          rw [hbad] at hfd
          have p1 := fun {w} => p0 (w := w) hv
          repeat' (first
            | with_reducible refine QX.next ?_ | with_reducible refine WC.seq ?_ | with_reducible refine WC.region ?_ | with_reducible refine WC.block ?_ | with_reducible refine QX.bnorm ?_ | with_reducible refine QX.bret ?_ | with_reducible refine QX.ret ?_ | with_reducible refine QX.exit ?_ | with_reducible refine QX.bsame ?_ | with_reducible refine QX.bother rfl ?_
            | with_reducible refine WO.nil ?_ | with_reducible refine WC.skip ?_ | with_reducible refine WC.ret ?_ | with_reducible refine WC.exit ?_ | ((with_reducible refine WC.id ?_); first | refine WC.condT rfl ?_ | refine WC.condF rfl ?_)
            | (refine WC.quietG hg ?_; clear hg) | ((with_reducible refine WQ.nilG ?_); intro w hg)
            | ((with_reducible refine WQ.cid ?_); first | refine WQ.xG ?_ | refine WQ.pure ?_)
            | ((with_reducible refine WQ.gid ?_); first | refine WQ.on rfl ?_ | refine WQ.offN rfl rfl ?_)
            | ((with_reducible refine WO.cid ?_); first
              | refine WO.x ?_ | (refine op_alloc hg ?_; clear hg; intro b w hg; refine WO.fr ?_) | (refine op_boxA hg ?_; clear hg; intro b w hg; refine WO.fr ?_) | (refine op_box1 hg ?_; clear hg; intro b w hg; refine WO.fr ?_)
              | (refine op_store hg ?_; clear hg; intro w hg; refine WO.fr ?_; try simp only [List.set_cons_succ, List.set_cons_zero] at hg)
              | (refine op_storeA hg ?_; clear hg; intro w hg; refine WO.fr ?_; try simp only [over, List.take_zero, List.take_succ_cons, List.drop_zero, List.drop_succ_cons, List.nil_append, List.cons_append, List.append_nil, List.length_cons, List.length_nil, Nat.zero_add, Nat.reduceAdd, splice, cellsL] at hg)
              | (refine op_pure hg ?_; clear hg; intro w hg; refine WO.fr ?_) | (refine op_pureB hg ?_; clear hg; intro w hg c hc; cases c <;> refine WO.fr ?_))
            | ((with_reducible refine WO.gid ?_); first | refine WO.on rfl ?_ | refine WO.offN rfl rfl ?_))
          with_reducible refine QX.norm ?_
          refine hK _ _ _ ?_ ?_ ?_
          · simp only [setAll, List.map_cons, List.map_nil, gt, List.set_cons_succ, List.set_cons_zero]
          all_goals simp only [List.map_cons, List.map_nil, gt, intOf]
          · exact ⟨i + 1, trivial, hlt, rfl, hfd, hg⟩
          · omega
      · have hbad : badB evs c evs[i] = false := by simp [badB, hcl]
        rw [hbad] at hfd
        repeat' (first
          | with_reducible refine QX.next ?_ | with_reducible refine WC.seq ?_ | with_reducible refine WC.region ?_ | with_reducible refine WC.block ?_ | with_reducible refine QX.bnorm ?_ | with_reducible refine QX.bret ?_ | with_reducible refine QX.ret ?_ | with_reducible refine QX.exit ?_ | with_reducible refine QX.bsame ?_ | with_reducible refine QX.bother rfl ?_
          | with_reducible refine WO.nil ?_ | with_reducible refine WC.skip ?_ | with_reducible refine WC.ret ?_ | with_reducible refine WC.exit ?_ | ((with_reducible refine WC.id ?_); first | refine WC.condT rfl ?_ | refine WC.condF rfl ?_)
          | (refine WC.quietG hg ?_; clear hg) | ((with_reducible refine WQ.nilG ?_); intro w hg)
          | ((with_reducible refine WQ.cid ?_); first | refine WQ.xG ?_ | refine WQ.pure ?_)
          | ((with_reducible refine WQ.gid ?_); first | refine WQ.on rfl ?_ | refine WQ.offN rfl rfl ?_)
          | ((with_reducible refine WO.cid ?_); first
            | refine WO.x ?_ | (refine op_alloc hg ?_; clear hg; intro b w hg; refine WO.fr ?_) | (refine op_boxA hg ?_; clear hg; intro b w hg; refine WO.fr ?_) | (refine op_box1 hg ?_; clear hg; intro b w hg; refine WO.fr ?_)
            | (refine op_store hg ?_; clear hg; intro w hg; refine WO.fr ?_; try simp only [List.set_cons_succ, List.set_cons_zero] at hg)
            | (refine op_storeA hg ?_; clear hg; intro w hg; refine WO.fr ?_; try simp only [over, List.take_zero, List.take_succ_cons, List.drop_zero, List.drop_succ_cons, List.nil_append, List.cons_append, List.append_nil, List.length_cons, List.length_nil, Nat.zero_add, Nat.reduceAdd, splice, cellsL] at hg)
            | (refine op_pure hg ?_; clear hg; intro w hg; refine WO.fr ?_) | (refine op_pureB hg ?_; clear hg; intro w hg c hc; cases c <;> refine WO.fr ?_))
          | ((with_reducible refine WO.gid ?_); first | refine WO.on rfl ?_ | refine WO.offN rfl rfl ?_))
        with_reducible refine QX.norm ?_
        refine hK _ _ _ ?_ ?_ ?_
        · simp only [setAll, List.map_cons, List.map_nil, gt, List.set_cons_succ, List.set_cons_zero]
        all_goals simp only [List.map_cons, List.map_nil, gt, intOf]
        · exact ⟨i + 1, trivial, hlt, rfl, hfd, hg⟩
        · omega
    · have hbad : badB evs c evs[i] = false := by simp [badB, hk]
      rw [hbad] at hfd
      repeat' (first
        | with_reducible refine QX.next ?_ | with_reducible refine WC.seq ?_ | with_reducible refine WC.region ?_ | with_reducible refine WC.block ?_ | with_reducible refine QX.bnorm ?_ | with_reducible refine QX.bret ?_ | with_reducible refine QX.ret ?_ | with_reducible refine QX.exit ?_ | with_reducible refine QX.bsame ?_ | with_reducible refine QX.bother rfl ?_
        | with_reducible refine WO.nil ?_ | with_reducible refine WC.skip ?_ | with_reducible refine WC.ret ?_ | with_reducible refine WC.exit ?_ | ((with_reducible refine WC.id ?_); first | refine WC.condT rfl ?_ | refine WC.condF rfl ?_)
        | (refine WC.quietG hg ?_; clear hg) | ((with_reducible refine WQ.nilG ?_); intro w hg)
        | ((with_reducible refine WQ.cid ?_); first | refine WQ.xG ?_ | refine WQ.pure ?_)
        | ((with_reducible refine WQ.gid ?_); first | refine WQ.on rfl ?_ | refine WQ.offN rfl rfl ?_)
        | ((with_reducible refine WO.cid ?_); first
          | refine WO.x ?_ | (refine op_alloc hg ?_; clear hg; intro b w hg; refine WO.fr ?_) | (refine op_boxA hg ?_; clear hg; intro b w hg; refine WO.fr ?_) | (refine op_box1 hg ?_; clear hg; intro b w hg; refine WO.fr ?_)
          | (refine op_store hg ?_; clear hg; intro w hg; refine WO.fr ?_; try simp only [List.set_cons_succ, List.set_cons_zero] at hg)
          | (refine op_storeA hg ?_; clear hg; intro w hg; refine WO.fr ?_; try simp only [over, List.take_zero, List.take_succ_cons, List.drop_zero, List.drop_succ_cons, List.nil_append, List.cons_append, List.append_nil, List.length_cons, List.length_nil, Nat.zero_add, Nat.reduceAdd, splice, cellsL] at hg)
          | (refine op_pure hg ?_; clear hg; intro w hg; refine WO.fr ?_) | (refine op_pureB hg ?_; clear hg; intro w hg c hc; cases c <;> refine WO.fr ?_))
        | ((with_reducible refine WO.gid ?_); first | refine WO.on rfl ?_ | refine WO.offN rfl rfl ?_))
      with_reducible refine QX.norm ?_
      refine hK _ _ _ ?_ ?_ ?_
      · simp only [setAll, List.map_cons, List.map_nil, gt, List.set_cons_succ, List.set_cons_zero]
      all_goals simp only [List.map_cons, List.map_nil, gt, intOf]
      · exact ⟨i + 1, trivial, hlt, rfl, hfd, hg⟩
      · omega
  · rw [List.drop_eq_nil_of_le (by omega)] at hfd
    repeat' (first
      | with_reducible refine QX.next ?_ | with_reducible refine WC.seq ?_ | with_reducible refine WC.region ?_ | with_reducible refine WC.block ?_ | with_reducible refine QX.bnorm ?_ | with_reducible refine QX.bret ?_ | with_reducible refine QX.ret ?_ | with_reducible refine QX.exit ?_ | with_reducible refine QX.bsame ?_ | with_reducible refine QX.bother rfl ?_
      | with_reducible refine WO.nil ?_ | with_reducible refine WC.skip ?_ | with_reducible refine WC.ret ?_ | with_reducible refine WC.exit ?_ | ((with_reducible refine WC.id ?_); first | refine WC.condT rfl ?_ | refine WC.condF rfl ?_)
      | (refine WC.quietG hg ?_; clear hg) | ((with_reducible refine WQ.nilG ?_); intro w hg)
      | ((with_reducible refine WQ.cid ?_); first | refine WQ.xG ?_ | refine WQ.pure ?_)
      | ((with_reducible refine WQ.gid ?_); first | refine WQ.on rfl ?_ | refine WQ.offN rfl rfl ?_)
      | ((with_reducible refine WO.cid ?_); first
        | refine WO.x ?_ | (refine op_alloc hg ?_; clear hg; intro b w hg; refine WO.fr ?_) | (refine op_boxA hg ?_; clear hg; intro b w hg; refine WO.fr ?_) | (refine op_box1 hg ?_; clear hg; intro b w hg; refine WO.fr ?_)
        | (refine op_store hg ?_; clear hg; intro w hg; refine WO.fr ?_; try simp only [List.set_cons_succ, List.set_cons_zero] at hg)
        | (refine op_storeA hg ?_; clear hg; intro w hg; refine WO.fr ?_; try simp only [over, List.take_zero, List.take_succ_cons, List.drop_zero, List.drop_succ_cons, List.nil_append, List.cons_append, List.append_nil, List.length_cons, List.length_nil, Nat.zero_add, Nat.reduceAdd, splice, cellsL] at hg)
        | (refine op_pure hg ?_; clear hg; intro w hg; refine WO.fr ?_) | (refine op_pureB hg ?_; clear hg; intro w hg c hc; cases c <;> refine WO.fr ?_))
      | ((with_reducible refine WO.gid ?_); first | refine WO.on rfl ?_ | refine WO.offN rfl rfl ?_))
    exact ret2 rfl ⟨by rw [hfd]; rfl, hg.unpair⟩
end Go.Proofs.Ytlomipcjkkjhiaa
