/- BoundF. -/
import Derived.Test.YtaamnccgciepbaaBndF
namespace Go.Proofs.Ytaamnccgciepbaa
open Go Go.RowKit
set_option maxRecDepth 10000
set_option linter.unusedSimpArgs false
set_option linter.unusedVariables false

theorem steps_bd {p : Params} (h : rightB p = true) (k : Int) : 1 ≤ stepsV p k ∧ stepsV p k ≤ p.ahead * sqV p + p.ahead + 4 ∧ 0 ≤ p.ahead * sqV p ∧ p.ahead * sqV p ≤ 16 * (4097 * 4097) := by
  have hbd := rightB_bd h
  have h1 : 0 ≤ sqV p ∧ sqV p ≤ 4097 * 4097 := mul_bd (a := p.bytes + 1) (b := p.bytes + 1) (A := 4097) (B := 4097) (by omega) (by omega)
  have h2 := mul_bd (a := p.ahead) (b := sqV p) (A := 16) (by omega) h1
  have h3 : 1 * sqV p ≤ p.ahead * sqV p := Int.mul_le_mul_of_nonneg_right (by omega) h1.1
  have h4 : (p.bytes + 1) * 1 ≤ sqV p := Int.mul_le_mul_of_nonneg_left (by omega) (by omega)
  unfold stepsV
  rw [if_pos h]
  refine ⟨?_, ?_, h2⟩
  · repeat' split
    all_goals omega
  · repeat' split
    all_goals omega

set_option maxHeartbeats 4000000 in
theorem BoundF_law (p : Params) (o : AOp) (wS : World) : Calls Try.prog 5 #[.agg p.enc.toArray, .agg o.enc.toArray] wS fun e w' => e = .returned (.bool true) ∧ Goes wS [] [] w' := by
  have hg := Goes.refl wS
  have p1 := F_spec p
  have p2 := rF_spec p
  have p3 := Steps_spec p o
  have p4 := rSteps_spec p o.kind
  have q2 := alive_spec
  cases hr : rightB p with
  | false =>
    have q1 : ∀ w, Calls Try.prog 15 #[.agg p.enc.toArray] w fun e w' => e = .returned (.bool false) ∧ Goes w [] [] w' := fun w => hr ▸ rRight_spec p w
    have hf : fV p = 0 := by simp [fV, hr]
    have hs : stepsV p o.kind = 0 := by simp [stepsV, hr]
    refine enter Try.func5 rfl (by simp only [Try.ntmps5, List.length_cons, List.length_nil, Nat.reduceAdd, Nat.reduceSub, List.replicate_succ, List.replicate_zero, List.cons_append, List.nil_append]; exact rfl) ?_
    repeat' (first
      | with_reducible refine QX.next ?_ | with_reducible refine WC.seq ?_ | with_reducible refine WC.region ?_ | with_reducible refine WC.block ?_ | with_reducible refine QX.bnorm ?_ | with_reducible refine QX.bret ?_ | with_reducible refine QX.ret ?_ | with_reducible refine QX.exit ?_ | with_reducible refine QX.bsame ?_ | with_reducible refine QX.bother rfl ?_
      | with_reducible refine WO.nil ?_ | with_reducible refine WC.skip ?_ | with_reducible refine WC.ret ?_ | with_reducible refine WC.exit ?_ | ((with_reducible refine WC.id ?_); first | refine WC.condT rfl ?_ | refine WC.condF rfl ?_)
      | (refine WC.quietG hg ?_; clear hg) | ((with_reducible refine WQ.nilG ?_); intro w hg)
      | ((with_reducible refine WQ.cid ?_); first | refine WQ.xG ?_ | refine WQ.pure ?_)
      | ((with_reducible refine WQ.gid ?_); first | refine WQ.on rfl ?_ | refine WQ.offN rfl rfl ?_)
      | ((with_reducible refine WO.cid ?_); first
        | refine WO.x ?_ | (refine op_alloc hg ?_; clear hg; intro b w hg; refine WO.fr ?_) | (refine op_boxA hg ?_; clear hg; intro b w hg; refine WO.fr ?_) | (refine op_box1 hg ?_; clear hg; intro b w hg; refine WO.fr ?_)
        | (refine op_store hg ?_; clear hg; intro w hg; refine WO.fr ?_; try simp only [List.set_cons_succ, List.set_cons_zero] at hg)
        | (refine op_storeA hg ?_; clear hg; intro w hg; refine WO.fr ?_; try simp only [over, List.take_zero, List.take_succ_cons, List.drop_zero, List.drop_succ_cons, List.nil_append, List.cons_append, List.append_nil, List.length_cons, List.length_nil, Nat.zero_add, Nat.reduceAdd, splice, cellsL] at hg)
        | (refine op_pure hg ?_; clear hg; intro w hg; refine WO.fr ?_) | (refine op_pureB hg ?_; clear hg; intro w hg c hc; cases c <;> refine WO.fr ?_))
      | ((with_reducible refine WO.gid ?_); first | refine WO.on rfl ?_ | refine WO.offN rfl rfl ?_))
    all_goals try contradiction
    all_goals exact ret1 rfl ⟨by simp [gt], hg.drop⟩
  | true =>
    have q1 : ∀ w, Calls Try.prog 15 #[.agg p.enc.toArray] w fun e w' => e = .returned (.bool true) ∧ Goes w [] [] w' := fun w => hr ▸ rRight_spec p w
    have hbd := rightB_bd hr
    have hst := steps_bd hr o.kind
    have h3 := mul_bd (a := p.tickets + 1) (b := p.ahead * sqV p + p.ahead + 4) (A := 65) (B := 16 * (4097 * 4097) + 20) (by omega) (by omega)
    have h4 := mul_bd (a := p.retries + 1) (b := p.ahead + 2) (A := 17) (B := 18) (by omega) (by omega)
    have h5 := mul_bd (a := p.tickets) (b := stepsV p o.kind) (A := 64) (B := 16 * (4097 * 4097) + 20) (by omega) (by omega)
    have h6 : p.tickets * stepsV p o.kind ≤ p.tickets * (p.ahead * sqV p + p.ahead + 4) := Int.mul_le_mul_of_nonneg_left hst.2.1 (by omega)
    have h7 : (p.tickets + 1) * (p.ahead * sqV p + p.ahead + 4) = p.tickets * (p.ahead * sqV p + p.ahead + 4) + (p.ahead * sqV p + p.ahead + 4) := by rw [Int.add_mul]; omega
    have hf : fV p = (p.retries + 1) * (p.ahead + 2) + (p.tickets + 1) * (p.ahead * sqV p + p.ahead + 4) + 1 := by simp [fV, hr]
    refine enter Try.func5 rfl (by simp only [Try.ntmps5, List.length_cons, List.length_nil, Nat.reduceAdd, Nat.reduceSub, List.replicate_succ, List.replicate_zero, List.cons_append, List.nil_append]; exact rfl) ?_
    repeat' (first
      | with_reducible refine QX.next ?_ | with_reducible refine WC.seq ?_ | with_reducible refine WC.region ?_ | with_reducible refine WC.block ?_ | with_reducible refine QX.bnorm ?_ | with_reducible refine QX.bret ?_ | with_reducible refine QX.ret ?_ | with_reducible refine QX.exit ?_ | with_reducible refine QX.bsame ?_ | with_reducible refine QX.bother rfl ?_
      | with_reducible refine WO.nil ?_ | with_reducible refine WC.skip ?_ | with_reducible refine WC.ret ?_ | with_reducible refine WC.exit ?_ | ((with_reducible refine WC.id ?_); first | refine WC.condT rfl ?_ | refine WC.condF rfl ?_)
      | (refine WC.quietG hg ?_; clear hg) | ((with_reducible refine WQ.nilG ?_); intro w hg)
      | ((with_reducible refine WQ.cid ?_); first | refine WQ.xG ?_ | refine WQ.pure ?_)
      | ((with_reducible refine WQ.gid ?_); first | refine WQ.on rfl ?_ | refine WQ.offN rfl rfl ?_)
      | ((with_reducible refine WO.cid ?_); first
        | refine WO.x ?_ | (refine op_alloc hg ?_; clear hg; intro b w hg; refine WO.fr ?_) | (refine op_boxA hg ?_; clear hg; intro b w hg; refine WO.fr ?_) | (refine op_box1 hg ?_; clear hg; intro b w hg; refine WO.fr ?_)
        | (refine op_store hg ?_; clear hg; intro w hg; refine WO.fr ?_; try simp only [List.set_cons_succ, List.set_cons_zero] at hg)
        | (refine op_storeA hg ?_; clear hg; intro w hg; refine WO.fr ?_; try simp only [over, List.take_zero, List.take_succ_cons, List.drop_zero, List.drop_succ_cons, List.nil_append, List.cons_append, List.append_nil, List.length_cons, List.length_nil, Nat.zero_add, Nat.reduceAdd, splice, cellsL] at hg)
        | (refine op_pure hg ?_; clear hg; intro w hg; refine WO.fr ?_) | (refine op_pureB hg ?_; clear hg; intro w hg c hc; cases c <;> refine WO.fr ?_))
      | ((with_reducible refine WO.gid ?_); first | refine WO.on rfl ?_ | refine WO.offN rfl rfl ?_))
    all_goals try contradiction
    all_goals exact ret1 rfl ⟨by simp [gt], hg.drop⟩
end Go.Proofs.Ytaamnccgciepbaa
