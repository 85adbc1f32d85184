/- The bounds: Steps, F, both ways. -/
import Derived.Test.YtaamnccgciepbaaBndD
namespace Go.Proofs.Ytaamnccgciepbaa
open Go Go.RowKit
set_option maxRecDepth 10000
set_option linter.unusedSimpArgs false
set_option linter.unusedVariables false

/-- api.Op -/
structure AOp where
  kind : Int
  n : Int
  data : ByteArray
def AOp.enc (o : AOp) : List Value := [.int .i64 o.kind, .int .i64 o.n, .string o.data]

theorem mul_bd {a b A B : Int} (ha : 0 ≤ a ∧ a ≤ A) (hb : 0 ≤ b ∧ b ≤ B) : 0 ≤ a * b ∧ a * b ≤ A * B :=
  ⟨Int.mul_nonneg ha.1 hb.1, Int.mul_le_mul ha.2 hb.2 hb.1 (Int.le_trans ha.1 ha.2)⟩

theorem rightB_bd {p : Params} (h : rightB p = true) : (1 ≤ p.bytes ∧ p.bytes ≤ 4096) ∧ (1 ≤ p.trail ∧ p.trail ≤ 64) ∧ (1 ≤ p.marks ∧ p.marks ≤ 64) ∧ (1 ≤ p.ahead ∧ p.ahead ≤ 16) ∧ (1 ≤ p.tickets ∧ p.tickets ≤ 64) ∧ (1 ≤ p.retries ∧ p.retries ≤ 16) ∧ (1 ≤ p.step ∧ p.step ≤ 4096) := by
  simp [rightB, inB] at h
  omega

def sqV (p : Params) : Int := (p.bytes + 1) * (p.bytes + 1)
def stepsV (p : Params) (k : Int) : Int :=
  if rightB p then (if k = 1 then p.bytes + 2 else if k = 3 then p.ahead * sqV p + p.ahead + 1 else if k = 4 then sqV p + 2 else 1) else 0
def fV (p : Params) : Int := if rightB p then (p.retries + 1) * (p.ahead + 2) + (p.tickets + 1) * (p.ahead * sqV p + p.ahead + 4) + 1 else 0

theorem square_spec (p : Params) (hb : 1 ≤ p.bytes ∧ p.bytes ≤ 4096) (w : World) : Calls Try.prog 21 #[.agg p.enc.toArray] w fun e w' => e = .returned (.int .i64 (sqV p)) ∧ Goes w [] [] w' := by
  have hg := Goes.refl w
  have h1 := mul_bd (a := p.bytes + 1) (b := p.bytes + 1) (A := 4097) (B := 4097) (by omega) (by omega)
  refine enter Try.func21 rfl (by simp only [Try.ntmps21, List.length_cons, List.length_nil, Nat.reduceAdd, Nat.reduceSub, List.replicate_succ, List.replicate_zero, List.cons_append, List.nil_append]; exact rfl) ?_
  repeat' (first
    | with_reducible refine QX.next ?_ | with_reducible refine WC.seq ?_ | with_reducible refine WC.region ?_ | with_reducible refine WC.block ?_ | with_reducible refine QX.bnorm ?_ | with_reducible refine QX.bret ?_ | with_reducible refine QX.ret ?_ | with_reducible refine QX.exit ?_ | with_reducible refine QX.bsame ?_ | with_reducible refine QX.bother rfl ?_
    | with_reducible refine WO.nil ?_ | with_reducible refine WC.skip ?_ | with_reducible refine WC.ret ?_ | with_reducible refine WC.exit ?_ | ((with_reducible refine WC.id ?_); first | refine WC.condT rfl ?_ | refine WC.condF rfl ?_)
    | (refine WC.quietG hg ?_; clear hg) | ((with_reducible refine WQ.nilG ?_); intro w hg)
    | ((with_reducible refine WQ.cid ?_); first | refine WQ.xG ?_ | refine WQ.pure ?_)
    | ((with_reducible refine WQ.gid ?_); first | refine WQ.on rfl ?_ | refine WQ.offN rfl rfl ?_)
    | ((with_reducible refine WO.cid ?_); first
      | refine WO.x ?_ | (refine op_alloc hg ?_; clear hg; intro b w hg; refine WO.fr ?_) | (refine op_boxA hg ?_; clear hg; intro b w hg; refine WO.fr ?_) | (refine op_box1 hg ?_; clear hg; intro b w hg; refine WO.fr ?_)
      | (refine op_store hg ?_; clear hg; intro w hg; refine WO.fr ?_; try simp only [List.set_cons_succ, List.set_cons_zero] at hg)
      | (refine op_storeA hg ?_; clear hg; intro w hg; refine WO.fr ?_; try simp only [over, List.take_zero, List.take_succ_cons, List.drop_zero, List.drop_succ_cons, List.nil_append, List.cons_append, List.append_nil, List.length_cons, List.length_nil, Nat.zero_add, Nat.reduceAdd, splice, cellsL] at hg)
      | (refine op_pure hg ?_; clear hg; intro w hg; refine WO.fr ?_) | (refine op_pureB hg ?_; clear hg; intro w hg c hc; cases c <;> refine WO.fr ?_))
    | ((with_reducible refine WO.gid ?_); first | refine WO.on rfl ?_ | refine WO.offN rfl rfl ?_))
  all_goals refine ret1 rfl ⟨rfl, hg.drop⟩

set_option maxHeartbeats 4000000 in
theorem Steps_spec (p : Params) (o : AOp) (w : World) : Calls Try.prog 12 #[.agg p.enc.toArray, .agg o.enc.toArray] w fun e w' => e = .returned (.int .i64 (stepsV p o.kind)) ∧ Goes w [] [] w' := by
  have hg := Goes.refl w
  cases hr : rightB p with
  | false =>
    have q1 : ∀ w, Calls Try.prog 20 #[.agg p.enc.toArray] w fun e w' => e = .returned (.bool false) ∧ Goes w [] [] w' := fun w => hr ▸ Right_spec p w
    refine enter Try.func12 rfl (by simp only [Try.ntmps12, List.length_cons, List.length_nil, Nat.reduceAdd, Nat.reduceSub, List.replicate_succ, List.replicate_zero, List.cons_append, List.nil_append]; exact rfl) ?_
    repeat' (first
      | with_reducible refine QX.next ?_ | with_reducible refine WC.seq ?_ | with_reducible refine WC.region ?_ | with_reducible refine WC.block ?_ | with_reducible refine QX.bnorm ?_ | with_reducible refine QX.bret ?_ | with_reducible refine QX.ret ?_ | with_reducible refine QX.exit ?_ | with_reducible refine QX.bsame ?_ | with_reducible refine QX.bother rfl ?_
      | with_reducible refine WO.nil ?_ | with_reducible refine WC.skip ?_ | with_reducible refine WC.ret ?_ | with_reducible refine WC.exit ?_ | ((with_reducible refine WC.id ?_); first | refine WC.condT rfl ?_ | refine WC.condF rfl ?_)
      | (refine WC.quietG hg ?_; clear hg) | ((with_reducible refine WQ.nilG ?_); intro w hg)
      | ((with_reducible refine WQ.cid ?_); first | refine WQ.xG ?_ | refine WQ.pure ?_)
      | ((with_reducible refine WQ.gid ?_); first | refine WQ.on rfl ?_ | refine WQ.offN rfl rfl ?_)
      | ((with_reducible refine WO.cid ?_); first
        | refine WO.x ?_ | (refine op_alloc hg ?_; clear hg; intro b w hg; refine WO.fr ?_) | (refine op_boxA hg ?_; clear hg; intro b w hg; refine WO.fr ?_) | (refine op_box1 hg ?_; clear hg; intro b w hg; refine WO.fr ?_)
        | (refine op_store hg ?_; clear hg; intro w hg; refine WO.fr ?_; try simp only [List.set_cons_succ, List.set_cons_zero] at hg)
        | (refine op_storeA hg ?_; clear hg; intro w hg; refine WO.fr ?_; try simp only [over, List.take_zero, List.take_succ_cons, List.drop_zero, List.drop_succ_cons, List.nil_append, List.cons_append, List.append_nil, List.length_cons, List.length_nil, Nat.zero_add, Nat.reduceAdd, splice, cellsL] at hg)
        | (refine op_pure hg ?_; clear hg; intro w hg; refine WO.fr ?_) | (refine op_pureB hg ?_; clear hg; intro w hg c hc; cases c <;> refine WO.fr ?_)
        | (refine WO.xS ?_; intro c hc; cases c <;> (refine WO.fr ?_; try simp only [decide_eq_true_eq, decide_eq_false_iff_not, beq_iff_eq, beq_eq_false_iff_ne, bne_iff_ne, bne_eq_false_iff_eq, ne_eq] at hc)))
      | ((with_reducible refine WO.gid ?_); first | refine WO.on rfl ?_ | refine WO.offN rfl rfl ?_))
    all_goals try contradiction
    all_goals refine ret1 rfl ⟨?_, hg.drop⟩
    all_goals simp [gt, stepsV, hr]
  | true =>
    have q1 : ∀ w, Calls Try.prog 20 #[.agg p.enc.toArray] w fun e w' => e = .returned (.bool true) ∧ Goes w [] [] w' := fun w => hr ▸ Right_spec p w
    have hbd := rightB_bd hr
    have p1 := square_spec p hbd.1
    have h1 : 0 ≤ sqV p ∧ sqV p ≤ 4097 * 4097 := mul_bd (a := p.bytes + 1) (b := p.bytes + 1) (A := 4097) (B := 4097) (by omega) (by omega)
    have h2 := mul_bd (a := p.ahead) (b := sqV p) (A := 16) (by omega) h1
    refine enter Try.func12 rfl (by simp only [Try.ntmps12, List.length_cons, List.length_nil, Nat.reduceAdd, Nat.reduceSub, List.replicate_succ, List.replicate_zero, List.cons_append, List.nil_append]; exact rfl) ?_
    repeat' (first
      | with_reducible refine QX.next ?_ | with_reducible refine WC.seq ?_ | with_reducible refine WC.region ?_ | with_reducible refine WC.block ?_ | with_reducible refine QX.bnorm ?_ | with_reducible refine QX.bret ?_ | with_reducible refine QX.ret ?_ | with_reducible refine QX.exit ?_ | with_reducible refine QX.bsame ?_ | with_reducible refine QX.bother rfl ?_
      | with_reducible refine WO.nil ?_ | with_reducible refine WC.skip ?_ | with_reducible refine WC.ret ?_ | with_reducible refine WC.exit ?_ | ((with_reducible refine WC.id ?_); first | refine WC.condT rfl ?_ | refine WC.condF rfl ?_)
      | (refine WC.quietG hg ?_; clear hg) | ((with_reducible refine WQ.nilG ?_); intro w hg)
      | ((with_reducible refine WQ.cid ?_); first | refine WQ.xG ?_ | refine WQ.pure ?_)
      | ((with_reducible refine WQ.gid ?_); first | refine WQ.on rfl ?_ | refine WQ.offN rfl rfl ?_)
      | ((with_reducible refine WO.cid ?_); first
        | refine WO.x ?_ | (refine op_alloc hg ?_; clear hg; intro b w hg; refine WO.fr ?_) | (refine op_boxA hg ?_; clear hg; intro b w hg; refine WO.fr ?_) | (refine op_box1 hg ?_; clear hg; intro b w hg; refine WO.fr ?_)
        | (refine op_store hg ?_; clear hg; intro w hg; refine WO.fr ?_; try simp only [List.set_cons_succ, List.set_cons_zero] at hg)
        | (refine op_storeA hg ?_; clear hg; intro w hg; refine WO.fr ?_; try simp only [over, List.take_zero, List.take_succ_cons, List.drop_zero, List.drop_succ_cons, List.nil_append, List.cons_append, List.append_nil, List.length_cons, List.length_nil, Nat.zero_add, Nat.reduceAdd, splice, cellsL] at hg)
        | (refine op_pure hg ?_; clear hg; intro w hg; refine WO.fr ?_) | (refine op_pureB hg ?_; clear hg; intro w hg c hc; cases c <;> refine WO.fr ?_)
        | (refine WO.xS ?_; intro c hc; cases c <;> (refine WO.fr ?_; try simp only [decide_eq_true_eq, decide_eq_false_iff_not, beq_iff_eq, beq_eq_false_iff_ne, bne_iff_ne, bne_eq_false_iff_eq, ne_eq] at hc)))
      | ((with_reducible refine WO.gid ?_); first | refine WO.on rfl ?_ | refine WO.offN rfl rfl ?_))
    all_goals try contradiction
    all_goals refine ret1 rfl ⟨?_, hg.drop⟩
    all_goals simp [gt, stepsV, hr, *]

set_option maxHeartbeats 4000000 in
theorem F_spec (p : Params) (w : World) : Calls Try.prog 11 #[.agg p.enc.toArray] w fun e w' => e = .returned (.int .i64 (fV p)) ∧ Goes w [] [] w' := by
  have hg := Goes.refl w
  cases hr : rightB p with
  | false =>
    have q1 : ∀ w, Calls Try.prog 20 #[.agg p.enc.toArray] w fun e w' => e = .returned (.bool false) ∧ Goes w [] [] w' := fun w => hr ▸ Right_spec p w
    refine enter Try.func11 rfl (by simp only [Try.ntmps11, List.length_cons, List.length_nil, Nat.reduceAdd, Nat.reduceSub, List.replicate_succ, List.replicate_zero, List.cons_append, List.nil_append]; exact rfl) ?_
    repeat' (first
      | with_reducible refine QX.next ?_ | with_reducible refine WC.seq ?_ | with_reducible refine WC.region ?_ | with_reducible refine WC.block ?_ | with_reducible refine QX.bnorm ?_ | with_reducible refine QX.bret ?_ | with_reducible refine QX.ret ?_ | with_reducible refine QX.exit ?_ | with_reducible refine QX.bsame ?_ | with_reducible refine QX.bother rfl ?_
      | with_reducible refine WO.nil ?_ | with_reducible refine WC.skip ?_ | with_reducible refine WC.ret ?_ | with_reducible refine WC.exit ?_ | ((with_reducible refine WC.id ?_); first | refine WC.condT rfl ?_ | refine WC.condF rfl ?_)
      | (refine WC.quietG hg ?_; clear hg) | ((with_reducible refine WQ.nilG ?_); intro w hg)
      | ((with_reducible refine WQ.cid ?_); first | refine WQ.xG ?_ | refine WQ.pure ?_)
      | ((with_reducible refine WQ.gid ?_); first | refine WQ.on rfl ?_ | refine WQ.offN rfl rfl ?_)
      | ((with_reducible refine WO.cid ?_); first
        | refine WO.x ?_ | (refine op_alloc hg ?_; clear hg; intro b w hg; refine WO.fr ?_) | (refine op_boxA hg ?_; clear hg; intro b w hg; refine WO.fr ?_) | (refine op_box1 hg ?_; clear hg; intro b w hg; refine WO.fr ?_)
        | (refine op_store hg ?_; clear hg; intro w hg; refine WO.fr ?_; try simp only [List.set_cons_succ, List.set_cons_zero] at hg)
        | (refine op_storeA hg ?_; clear hg; intro w hg; refine WO.fr ?_; try simp only [over, List.take_zero, List.take_succ_cons, List.drop_zero, List.drop_succ_cons, List.nil_append, List.cons_append, List.append_nil, List.length_cons, List.length_nil, Nat.zero_add, Nat.reduceAdd, splice, cellsL] at hg)
        | (refine op_pure hg ?_; clear hg; intro w hg; refine WO.fr ?_) | (refine op_pureB hg ?_; clear hg; intro w hg c hc; cases c <;> refine WO.fr ?_)
        | (refine WO.xS ?_; intro c hc; cases c <;> (refine WO.fr ?_; try simp only [decide_eq_true_eq, decide_eq_false_iff_not, beq_iff_eq, beq_eq_false_iff_ne, bne_iff_ne, bne_eq_false_iff_eq, ne_eq] at hc)))
      | ((with_reducible refine WO.gid ?_); first | refine WO.on rfl ?_ | refine WO.offN rfl rfl ?_))
    all_goals try contradiction
    all_goals refine ret1 rfl ⟨?_, hg.drop⟩
    all_goals simp [gt, fV, hr]
  | true =>
    have q1 : ∀ w, Calls Try.prog 20 #[.agg p.enc.toArray] w fun e w' => e = .returned (.bool true) ∧ Goes w [] [] w' := fun w => hr ▸ Right_spec p w
    have hbd := rightB_bd hr
    have p1 := square_spec p hbd.1
    have h1 : 0 ≤ sqV p ∧ sqV p ≤ 4097 * 4097 := mul_bd (a := p.bytes + 1) (b := p.bytes + 1) (A := 4097) (B := 4097) (by omega) (by omega)
    have h2 := mul_bd (a := p.ahead) (b := sqV p) (A := 16) (by omega) h1
    have h3 := mul_bd (a := p.tickets + 1) (b := p.ahead * sqV p + p.ahead + 4) (A := 65) (B := 16 * (4097 * 4097) + 20) (by omega) (by omega)
    have h4 := mul_bd (a := p.retries + 1) (b := p.ahead + 2) (A := 17) (B := 18) (by omega) (by omega)
    refine enter Try.func11 rfl (by simp only [Try.ntmps11, List.length_cons, List.length_nil, Nat.reduceAdd, Nat.reduceSub, List.replicate_succ, List.replicate_zero, List.cons_append, List.nil_append]; exact rfl) ?_
    repeat' (first
      | with_reducible refine QX.next ?_ | with_reducible refine WC.seq ?_ | with_reducible refine WC.region ?_ | with_reducible refine WC.block ?_ | with_reducible refine QX.bnorm ?_ | with_reducible refine QX.bret ?_ | with_reducible refine QX.ret ?_ | with_reducible refine QX.exit ?_ | with_reducible refine QX.bsame ?_ | with_reducible refine QX.bother rfl ?_
      | with_reducible refine WO.nil ?_ | with_reducible refine WC.skip ?_ | with_reducible refine WC.ret ?_ | with_reducible refine WC.exit ?_ | ((with_reducible refine WC.id ?_); first | refine WC.condT rfl ?_ | refine WC.condF rfl ?_)
      | (refine WC.quietG hg ?_; clear hg) | ((with_reducible refine WQ.nilG ?_); intro w hg)
      | ((with_reducible refine WQ.cid ?_); first | refine WQ.xG ?_ | refine WQ.pure ?_)
      | ((with_reducible refine WQ.gid ?_); first | refine WQ.on rfl ?_ | refine WQ.offN rfl rfl ?_)
      | ((with_reducible refine WO.cid ?_); first
        | refine WO.x ?_ | (refine op_alloc hg ?_; clear hg; intro b w hg; refine WO.fr ?_) | (refine op_boxA hg ?_; clear hg; intro b w hg; refine WO.fr ?_) | (refine op_box1 hg ?_; clear hg; intro b w hg; refine WO.fr ?_)
        | (refine op_store hg ?_; clear hg; intro w hg; refine WO.fr ?_; try simp only [List.set_cons_succ, List.set_cons_zero] at hg)
        | (refine op_storeA hg ?_; clear hg; intro w hg; refine WO.fr ?_; try simp only [over, List.take_zero, List.take_succ_cons, List.drop_zero, List.drop_succ_cons, List.nil_append, List.cons_append, List.append_nil, List.length_cons, List.length_nil, Nat.zero_add, Nat.reduceAdd, splice, cellsL] at hg)
        | (refine op_pure hg ?_; clear hg; intro w hg; refine WO.fr ?_) | (refine op_pureB hg ?_; clear hg; intro w hg c hc; cases c <;> refine WO.fr ?_)
        | (refine WO.xS ?_; intro c hc; cases c <;> (refine WO.fr ?_; try simp only [decide_eq_true_eq, decide_eq_false_iff_not, beq_iff_eq, beq_eq_false_iff_ne, bne_iff_ne, bne_eq_false_iff_eq, ne_eq] at hc)))
      | ((with_reducible refine WO.gid ?_); first | refine WO.on rfl ?_ | refine WO.offN rfl rfl ?_))
    all_goals try contradiction
    all_goals refine ret1 rfl ⟨?_, hg.drop⟩
    all_goals simp [gt, fV, hr, *]

set_option maxHeartbeats 4000000 in
theorem rSteps_spec (p : Params) (k : Int) (w : World) : Calls Try.prog 14 #[.agg p.enc.toArray, .int .i64 k] w fun e w' => e = .returned (.int .i64 (stepsV p k)) ∧ Goes w [] [] w' := by
  have hg := Goes.refl w
  cases hr : rightB p with
  | false =>
    have q1 : ∀ w, Calls Try.prog 15 #[.agg p.enc.toArray] w fun e w' => e = .returned (.bool false) ∧ Goes w [] [] w' := fun w => hr ▸ rRight_spec p w
    refine enter Try.func14 rfl (by simp only [Try.ntmps14, List.length_cons, List.length_nil, Nat.reduceAdd, Nat.reduceSub, List.replicate_succ, List.replicate_zero, List.cons_append, List.nil_append]; exact rfl) ?_
    repeat' (first
      | with_reducible refine QX.next ?_ | with_reducible refine WC.seq ?_ | with_reducible refine WC.region ?_ | with_reducible refine WC.block ?_ | with_reducible refine QX.bnorm ?_ | with_reducible refine QX.bret ?_ | with_reducible refine QX.ret ?_ | with_reducible refine QX.exit ?_ | with_reducible refine QX.bsame ?_ | with_reducible refine QX.bother rfl ?_
      | with_reducible refine WO.nil ?_ | with_reducible refine WC.skip ?_ | with_reducible refine WC.ret ?_ | with_reducible refine WC.exit ?_ | ((with_reducible refine WC.id ?_); first | refine WC.condT rfl ?_ | refine WC.condF rfl ?_)
      | (refine WC.quietG hg ?_; clear hg) | ((with_reducible refine WQ.nilG ?_); intro w hg)
      | ((with_reducible refine WQ.cid ?_); first | refine WQ.xG ?_ | refine WQ.pure ?_)
      | ((with_reducible refine WQ.gid ?_); first | refine WQ.on rfl ?_ | refine WQ.offN rfl rfl ?_)
      | ((with_reducible refine WO.cid ?_); first
        | refine WO.x ?_ | (refine op_alloc hg ?_; clear hg; intro b w hg; refine WO.fr ?_) | (refine op_boxA hg ?_; clear hg; intro b w hg; refine WO.fr ?_) | (refine op_box1 hg ?_; clear hg; intro b w hg; refine WO.fr ?_)
        | (refine op_store hg ?_; clear hg; intro w hg; refine WO.fr ?_; try simp only [List.set_cons_succ, List.set_cons_zero] at hg)
        | (refine op_storeA hg ?_; clear hg; intro w hg; refine WO.fr ?_; try simp only [over, List.take_zero, List.take_succ_cons, List.drop_zero, List.drop_succ_cons, List.nil_append, List.cons_append, List.append_nil, List.length_cons, List.length_nil, Nat.zero_add, Nat.reduceAdd, splice, cellsL] at hg)
        | (refine op_pure hg ?_; clear hg; intro w hg; refine WO.fr ?_) | (refine op_pureB hg ?_; clear hg; intro w hg c hc; cases c <;> refine WO.fr ?_)
        | (refine WO.xS ?_; intro c hc; cases c <;> (refine WO.fr ?_; try simp only [decide_eq_true_eq, decide_eq_false_iff_not, beq_iff_eq, beq_eq_false_iff_ne, bne_iff_ne, bne_eq_false_iff_eq, ne_eq] at hc)))
      | ((with_reducible refine WO.gid ?_); first | refine WO.on rfl ?_ | refine WO.offN rfl rfl ?_))
    all_goals try contradiction
    all_goals refine ret1 rfl ⟨?_, hg.drop⟩
    all_goals simp [gt, stepsV, hr]
  | true =>
    have q1 : ∀ w, Calls Try.prog 15 #[.agg p.enc.toArray] w fun e w' => e = .returned (.bool true) ∧ Goes w [] [] w' := fun w => hr ▸ rRight_spec p w
    have hbd := rightB_bd hr
    have h1 := mul_bd (a := p.bytes + 1) (b := p.bytes + 1) (A := 4097) (B := 4097) (by omega) (by omega)
    have h5 := mul_bd (a := p.ahead) (b := p.bytes + 1) (A := 16) (B := 4097) (by omega) (by omega)
    have h6 := mul_bd (a := p.ahead * (p.bytes + 1)) (b := p.bytes + 1) h5 (B := 4097) (by omega)
    refine enter Try.func14 rfl (by simp only [Try.ntmps14, List.length_cons, List.length_nil, Nat.reduceAdd, Nat.reduceSub, List.replicate_succ, List.replicate_zero, List.cons_append, List.nil_append]; exact rfl) ?_
    repeat' (first
      | with_reducible refine QX.next ?_ | with_reducible refine WC.seq ?_ | with_reducible refine WC.region ?_ | with_reducible refine WC.block ?_ | with_reducible refine QX.bnorm ?_ | with_reducible refine QX.bret ?_ | with_reducible refine QX.ret ?_ | with_reducible refine QX.exit ?_ | with_reducible refine QX.bsame ?_ | with_reducible refine QX.bother rfl ?_
      | with_reducible refine WO.nil ?_ | with_reducible refine WC.skip ?_ | with_reducible refine WC.ret ?_ | with_reducible refine WC.exit ?_ | ((with_reducible refine WC.id ?_); first | refine WC.condT rfl ?_ | refine WC.condF rfl ?_)
      | (refine WC.quietG hg ?_; clear hg) | ((with_reducible refine WQ.nilG ?_); intro w hg)
      | ((with_reducible refine WQ.cid ?_); first | refine WQ.xG ?_ | refine WQ.pure ?_)
      | ((with_reducible refine WQ.gid ?_); first | refine WQ.on rfl ?_ | refine WQ.offN rfl rfl ?_)
      | ((with_reducible refine WO.cid ?_); first
        | refine WO.x ?_ | (refine op_alloc hg ?_; clear hg; intro b w hg; refine WO.fr ?_) | (refine op_boxA hg ?_; clear hg; intro b w hg; refine WO.fr ?_) | (refine op_box1 hg ?_; clear hg; intro b w hg; refine WO.fr ?_)
        | (refine op_store hg ?_; clear hg; intro w hg; refine WO.fr ?_; try simp only [List.set_cons_succ, List.set_cons_zero] at hg)
        | (refine op_storeA hg ?_; clear hg; intro w hg; refine WO.fr ?_; try simp only [over, List.take_zero, List.take_succ_cons, List.drop_zero, List.drop_succ_cons, List.nil_append, List.cons_append, List.append_nil, List.length_cons, List.length_nil, Nat.zero_add, Nat.reduceAdd, splice, cellsL] at hg)
        | (refine op_pure hg ?_; clear hg; intro w hg; refine WO.fr ?_) | (refine op_pureB hg ?_; clear hg; intro w hg c hc; cases c <;> refine WO.fr ?_)
        | (refine WO.xS ?_; intro c hc; cases c <;> (refine WO.fr ?_; try simp only [decide_eq_true_eq, decide_eq_false_iff_not, beq_iff_eq, beq_eq_false_iff_ne, bne_iff_ne, bne_eq_false_iff_eq, ne_eq] at hc)))
      | ((with_reducible refine WO.gid ?_); first | refine WO.on rfl ?_ | refine WO.offN rfl rfl ?_))
    all_goals try contradiction
    all_goals refine ret1 rfl ⟨?_, hg.drop⟩
    all_goals simp [gt, stepsV, sqV, hr, Int.mul_assoc, *]
    all_goals try omega

set_option maxHeartbeats 4000000 in
theorem rF_spec (p : Params) (w : World) : Calls Try.prog 13 #[.agg p.enc.toArray] w fun e w' => e = .returned (.int .i64 (fV p)) ∧ Goes w [] [] w' := by
  have hg := Goes.refl w
  cases hr : rightB p with
  | false =>
    have q1 : ∀ w, Calls Try.prog 15 #[.agg p.enc.toArray] w fun e w' => e = .returned (.bool false) ∧ Goes w [] [] w' := fun w => hr ▸ rRight_spec p w
    refine enter Try.func13 rfl (by simp only [Try.ntmps13, List.length_cons, List.length_nil, Nat.reduceAdd, Nat.reduceSub, List.replicate_succ, List.replicate_zero, List.cons_append, List.nil_append]; exact rfl) ?_
    repeat' (first
      | with_reducible refine QX.next ?_ | with_reducible refine WC.seq ?_ | with_reducible refine WC.region ?_ | with_reducible refine WC.block ?_ | with_reducible refine QX.bnorm ?_ | with_reducible refine QX.bret ?_ | with_reducible refine QX.ret ?_ | with_reducible refine QX.exit ?_ | with_reducible refine QX.bsame ?_ | with_reducible refine QX.bother rfl ?_
      | with_reducible refine WO.nil ?_ | with_reducible refine WC.skip ?_ | with_reducible refine WC.ret ?_ | with_reducible refine WC.exit ?_ | ((with_reducible refine WC.id ?_); first | refine WC.condT rfl ?_ | refine WC.condF rfl ?_)
      | (refine WC.quietG hg ?_; clear hg) | ((with_reducible refine WQ.nilG ?_); intro w hg)
      | ((with_reducible refine WQ.cid ?_); first | refine WQ.xG ?_ | refine WQ.pure ?_)
      | ((with_reducible refine WQ.gid ?_); first | refine WQ.on rfl ?_ | refine WQ.offN rfl rfl ?_)
      | ((with_reducible refine WO.cid ?_); first
        | refine WO.x ?_ | (refine op_alloc hg ?_; clear hg; intro b w hg; refine WO.fr ?_) | (refine op_boxA hg ?_; clear hg; intro b w hg; refine WO.fr ?_) | (refine op_box1 hg ?_; clear hg; intro b w hg; refine WO.fr ?_)
        | (refine op_store hg ?_; clear hg; intro w hg; refine WO.fr ?_; try simp only [List.set_cons_succ, List.set_cons_zero] at hg)
        | (refine op_storeA hg ?_; clear hg; intro w hg; refine WO.fr ?_; try simp only [over, List.take_zero, List.take_succ_cons, List.drop_zero, List.drop_succ_cons, List.nil_append, List.cons_append, List.append_nil, List.length_cons, List.length_nil, Nat.zero_add, Nat.reduceAdd, splice, cellsL] at hg)
        | (refine op_pure hg ?_; clear hg; intro w hg; refine WO.fr ?_) | (refine op_pureB hg ?_; clear hg; intro w hg c hc; cases c <;> refine WO.fr ?_)
        | (refine WO.xS ?_; intro c hc; cases c <;> (refine WO.fr ?_; try simp only [decide_eq_true_eq, decide_eq_false_iff_not, beq_iff_eq, beq_eq_false_iff_ne, bne_iff_ne, bne_eq_false_iff_eq, ne_eq] at hc)))
      | ((with_reducible refine WO.gid ?_); first | refine WO.on rfl ?_ | refine WO.offN rfl rfl ?_))
    all_goals try contradiction
    all_goals refine ret1 rfl ⟨?_, hg.drop⟩
    all_goals simp [gt, fV, hr]
  | true =>
    have q1 : ∀ w, Calls Try.prog 15 #[.agg p.enc.toArray] w fun e w' => e = .returned (.bool true) ∧ Goes w [] [] w' := fun w => hr ▸ rRight_spec p w
    have hbd := rightB_bd hr
    have h5 := mul_bd (a := p.ahead) (b := p.bytes + 1) (A := 16) (B := 4097) (by omega) (by omega)
    have h6 := mul_bd (a := p.ahead * (p.bytes + 1)) (b := p.bytes + 1) h5 (B := 4097) (by omega)
    have h3 := mul_bd (a := p.tickets + 1) (b := p.ahead * (p.bytes + 1) * (p.bytes + 1) + p.ahead + 4) (A := 65) (B := 16 * 4097 * 4097 + 20) (by omega) (by omega)
    have h4 := mul_bd (a := p.retries + 1) (b := p.ahead + 2) (A := 17) (B := 18) (by omega) (by omega)
    refine enter Try.func13 rfl (by simp only [Try.ntmps13, List.length_cons, List.length_nil, Nat.reduceAdd, Nat.reduceSub, List.replicate_succ, List.replicate_zero, List.cons_append, List.nil_append]; exact rfl) ?_
    repeat' (first
      | with_reducible refine QX.next ?_ | with_reducible refine WC.seq ?_ | with_reducible refine WC.region ?_ | with_reducible refine WC.block ?_ | with_reducible refine QX.bnorm ?_ | with_reducible refine QX.bret ?_ | with_reducible refine QX.ret ?_ | with_reducible refine QX.exit ?_ | with_reducible refine QX.bsame ?_ | with_reducible refine QX.bother rfl ?_
      | with_reducible refine WO.nil ?_ | with_reducible refine WC.skip ?_ | with_reducible refine WC.ret ?_ | with_reducible refine WC.exit ?_ | ((with_reducible refine WC.id ?_); first | refine WC.condT rfl ?_ | refine WC.condF rfl ?_)
      | (refine WC.quietG hg ?_; clear hg) | ((with_reducible refine WQ.nilG ?_); intro w hg)
      | ((with_reducible refine WQ.cid ?_); first | refine WQ.xG ?_ | refine WQ.pure ?_)
      | ((with_reducible refine WQ.gid ?_); first | refine WQ.on rfl ?_ | refine WQ.offN rfl rfl ?_)
      | ((with_reducible refine WO.cid ?_); first
        | refine WO.x ?_ | (refine op_alloc hg ?_; clear hg; intro b w hg; refine WO.fr ?_) | (refine op_boxA hg ?_; clear hg; intro b w hg; refine WO.fr ?_) | (refine op_box1 hg ?_; clear hg; intro b w hg; refine WO.fr ?_)
        | (refine op_store hg ?_; clear hg; intro w hg; refine WO.fr ?_; try simp only [List.set_cons_succ, List.set_cons_zero] at hg)
        | (refine op_storeA hg ?_; clear hg; intro w hg; refine WO.fr ?_; try simp only [over, List.take_zero, List.take_succ_cons, List.drop_zero, List.drop_succ_cons, List.nil_append, List.cons_append, List.append_nil, List.length_cons, List.length_nil, Nat.zero_add, Nat.reduceAdd, splice, cellsL] at hg)
        | (refine op_pure hg ?_; clear hg; intro w hg; refine WO.fr ?_) | (refine op_pureB hg ?_; clear hg; intro w hg c hc; cases c <;> refine WO.fr ?_)
        | (refine WO.xS ?_; intro c hc; cases c <;> (refine WO.fr ?_; try simp only [decide_eq_true_eq, decide_eq_false_iff_not, beq_iff_eq, beq_eq_false_iff_ne, bne_iff_ne, bne_eq_false_iff_eq, ne_eq] at hc)))
      | ((with_reducible refine WO.gid ?_); first | refine WO.on rfl ?_ | refine WO.offN rfl rfl ?_))
    all_goals try contradiction
    all_goals refine ret1 rfl ⟨?_, hg.drop⟩
    all_goals simp [gt, fV, sqV, hr, Int.mul_assoc]

def itemOf (kind client : Int) : Item := ⟨kind, client, 0, 0, ByteArray.empty⟩
theorem pick_spec (k c : Int) (w : World) : Calls Try.prog 16 #[.int .i64 k, .int .i64 c] w fun e w' => e = .returned (.agg (itemOf k c).enc.toArray) ∧ Goes w [] [] w' := by
  have hg := Goes.refl w
  refine enter Try.func16 rfl (by simp only [Try.ntmps16, List.length_cons, List.length_nil, Nat.reduceAdd, Nat.reduceSub, List.replicate_succ, List.replicate_zero, List.cons_append, List.nil_append]; exact rfl) ?_
  repeat' (first
    | with_reducible refine QX.next ?_ | with_reducible refine WC.seq ?_ | with_reducible refine WC.region ?_ | with_reducible refine WC.block ?_ | with_reducible refine QX.bnorm ?_ | with_reducible refine QX.bret ?_ | with_reducible refine QX.ret ?_ | with_reducible refine QX.exit ?_ | with_reducible refine QX.bsame ?_ | with_reducible refine QX.bother rfl ?_
    | with_reducible refine WO.nil ?_ | with_reducible refine WC.skip ?_ | with_reducible refine WC.ret ?_ | with_reducible refine WC.exit ?_ | ((with_reducible refine WC.id ?_); first | refine WC.condT rfl ?_ | refine WC.condF rfl ?_)
    | (refine WC.quietG hg ?_; clear hg) | ((with_reducible refine WQ.nilG ?_); intro w hg)
    | ((with_reducible refine WQ.cid ?_); first | refine WQ.xG ?_ | refine WQ.pure ?_)
    | ((with_reducible refine WQ.gid ?_); first | refine WQ.on rfl ?_ | refine WQ.offN rfl rfl ?_)
    | ((with_reducible refine WO.cid ?_); first
      | refine WO.x ?_ | (refine op_alloc hg ?_; clear hg; intro b w hg; refine WO.fr ?_) | (refine op_boxA hg ?_; clear hg; intro b w hg; refine WO.fr ?_) | (refine op_box1 hg ?_; clear hg; intro b w hg; refine WO.fr ?_)
      | (refine op_store hg ?_; clear hg; intro w hg; refine WO.fr ?_; try simp only [List.set_cons_succ, List.set_cons_zero] at hg)
      | (refine op_storeA hg ?_; clear hg; intro w hg; refine WO.fr ?_; try simp only [over, List.take_zero, List.take_succ_cons, List.drop_zero, List.drop_succ_cons, List.nil_append, List.cons_append, List.append_nil, List.length_cons, List.length_nil, Nat.zero_add, Nat.reduceAdd, splice, cellsL] at hg)
      | (refine op_pure hg ?_; clear hg; intro w hg; refine WO.fr ?_) | (refine op_pureB hg ?_; clear hg; intro w hg c hc; cases c <;> refine WO.fr ?_))
    | ((with_reducible refine WO.gid ?_); first | refine WO.on rfl ?_ | refine WO.offN rfl rfl ?_))
  exact ret (.cells rfl (by first | with_reducible assumption | ((with_reducible apply Cells.ldn); (first | with_reducible assumption | ((with_reducible apply hg.cells0); with_reducible assumption) | with_reducible exact r1 hg | with_reducible exact r2 hg | with_reducible exact r3 hg); exact rfl) | ((with_reducible apply CellsAt.ldn (hg := hg)); (repeat (first | ((with_reducible apply CellsAt.whole); exact rfl) | ((with_reducible apply CellsAt.here) <;> first | (simp only [List.drop_zero, List.drop_succ_cons, List.take_succ_cons, List.take_zero]; exact rfl) | exact rfl) | with_reducible apply CellsAt.more | with_reducible apply CellsAt.next)); done)) .nil) ⟨rfl, hg.drop⟩
def smallP (n : Int) : Params := ⟨n, 2, 2, 3, 2, 2, 2⟩
theorem Small_spec (n : Int) (w : World) : Calls Try.prog 17 #[.int .i64 n] w fun e w' => e = .returned (.agg (smallP n).enc.toArray) ∧ Goes w [] [] w' := by
  have hg := Goes.refl w
  refine enter Try.func17 rfl (by simp only [Try.ntmps17, List.length_cons, List.length_nil, Nat.reduceAdd, Nat.reduceSub, List.replicate_succ, List.replicate_zero, List.cons_append, List.nil_append]; exact rfl) ?_
  repeat' (first
    | with_reducible refine QX.next ?_ | with_reducible refine WC.seq ?_ | with_reducible refine WC.region ?_ | with_reducible refine WC.block ?_ | with_reducible refine QX.bnorm ?_ | with_reducible refine QX.bret ?_ | with_reducible refine QX.ret ?_ | with_reducible refine QX.exit ?_ | with_reducible refine QX.bsame ?_ | with_reducible refine QX.bother rfl ?_
    | with_reducible refine WO.nil ?_ | with_reducible refine WC.skip ?_ | with_reducible refine WC.ret ?_ | with_reducible refine WC.exit ?_ | ((with_reducible refine WC.id ?_); first | refine WC.condT rfl ?_ | refine WC.condF rfl ?_)
    | (refine WC.quietG hg ?_; clear hg) | ((with_reducible refine WQ.nilG ?_); intro w hg)
    | ((with_reducible refine WQ.cid ?_); first | refine WQ.xG ?_ | refine WQ.pure ?_)
    | ((with_reducible refine WQ.gid ?_); first | refine WQ.on rfl ?_ | refine WQ.offN rfl rfl ?_)
    | ((with_reducible refine WO.cid ?_); first
      | refine WO.x ?_ | (refine op_alloc hg ?_; clear hg; intro b w hg; refine WO.fr ?_) | (refine op_boxA hg ?_; clear hg; intro b w hg; refine WO.fr ?_) | (refine op_box1 hg ?_; clear hg; intro b w hg; refine WO.fr ?_)
      | (refine op_store hg ?_; clear hg; intro w hg; refine WO.fr ?_; try simp only [List.set_cons_succ, List.set_cons_zero] at hg)
      | (refine op_storeA hg ?_; clear hg; intro w hg; refine WO.fr ?_; try simp only [over, List.take_zero, List.take_succ_cons, List.drop_zero, List.drop_succ_cons, List.nil_append, List.cons_append, List.append_nil, List.length_cons, List.length_nil, Nat.zero_add, Nat.reduceAdd, splice, cellsL] at hg)
      | (refine op_pure hg ?_; clear hg; intro w hg; refine WO.fr ?_) | (refine op_pureB hg ?_; clear hg; intro w hg c hc; cases c <;> refine WO.fr ?_))
    | ((with_reducible refine WO.gid ?_); first | refine WO.on rfl ?_ | refine WO.offN rfl rfl ?_))
  exact ret (.cells rfl (by first | with_reducible assumption | ((with_reducible apply Cells.ldn); (first | with_reducible assumption | ((with_reducible apply hg.cells0); with_reducible assumption) | with_reducible exact r1 hg | with_reducible exact r2 hg | with_reducible exact r3 hg); exact rfl) | ((with_reducible apply CellsAt.ldn (hg := hg)); (repeat (first | ((with_reducible apply CellsAt.whole); exact rfl) | ((with_reducible apply CellsAt.here) <;> first | (simp only [List.drop_zero, List.drop_succ_cons, List.take_succ_cons, List.take_zero]; exact rfl) | exact rfl) | with_reducible apply CellsAt.more | with_reducible apply CellsAt.next)); done)) .nil) ⟨rfl, hg.drop⟩
end Go.Proofs.Ytaamnccgciepbaa
