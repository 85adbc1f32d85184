/- Regions that draw their order; ranges over a function; bodies that hold such ranges. -/
import Derived.Test.YtdjepfpmoeecaaaOps
import Derived.Deep.Quiet
import Derived.OrdersIn
namespace Go.Proofs.Ytdjepfpmoeecaaa
open Go Go.RowKit
set_option linter.unusedSimpArgs false
set_option linter.unusedVariables false

/-! ## Regions that draw their order, and only read and make -/

def noDefer (ops : Array Oper) : Bool := ops.all fun o => match o.op with | .defer _ => false | _ => true
theorem noDefer_spec {ops : Array Oper} (h : noDefer ops = true) {j : Nat} {o : Oper} (ho : ops[j]? = some o) (c : Call) : o.op ≠ .defer c := by
  unfold noDefer at h
  have := (Array.all_eq_true_iff_forall_mem.1 h) o (Array.mem_of_getElem? ho)
  intro e
  rw [e] at this
  simp at this

structure WQ (P : Program) (C : World → Prop) (ops : Array Oper) (Q : Act → Prop) (os : List Oper) (l : List Value) (d : List Deferred) : Prop where
  out : wpQuiet P ops C Q os (St l d)

section
variable {P : Program} {r : Option Nat} {Q : Exit → Act → World → Prop} {l l' : List Value} {d : List Deferred} {w : World} {C : World → Prop} {K : Act → Prop}
variable {ops : Array Oper} {os : List Oper} {dst : Option Tmp} {ty : TypeId} {pos : String} {af : Array Edge} {v : Value}

theorem semAt_fr {o : Oper} (hnd : ∀ c, o.op ≠ .defer c) (ρ : Operand → Value) : Oper.semAt (Fr r).round ρ o = execOp ρ o := by
  cases hr : (Fr r).round with
  | none => rfl
  | some x => exact Oper.semAt_some x _ _ hnd

theorem wpIn_of_quiet {o : Oper} {a : Act} {K : Act → Prop} {K' : Act → World → Prop} {Q' : Exit → Act → World → Prop} {w : World} (hnd : ∀ c, o.op ≠ .defer c) (hw : C w) (h : ∀ a w', C w' → K a → K' a w') (hh : o.quiet P a C K) :
    o.wpIn (Fr r) 0 P a w K' Q' := by
  obtain ⟨v, h1, h2⟩ := hh
  have h3 := h1 w hw
  refine ⟨fun _ _ => trivial, ?_⟩
  rw [semAt_fr hnd]
  unfold Oper.quietAt at h3
  generalize (execOp a.eval o).run P w = res at h3
  cases res with
  | halt x w' => exact h3.elim
  | ok x w' =>
    cases x <;> first
      | exact h3.elim
      | skip
    · obtain ⟨rfl, rfl⟩ := h3
      exact h _ _ hw h2
    · obtain ⟨rfl, rfl⟩ := h3
      exact h _ _ hw h2
    · obtain ⟨rfl, h3⟩ := h3
      refine ⟨fun h => by simp [Fr] at h, callsIn_fr (h3.mono ?_)⟩
      rintro e w'' ⟨rfl, hc⟩
      exact h _ _ hc h2

theorem wpOpIn_of_qOp {i : Nat} {a : Act} {K : Act → Prop} {K' : Act → World → Prop} {Q' : Exit → Act → World → Prop} {w : World} (hnd : noDefer ops = true) (hw : C w) (h : ∀ a w', C w' → K a → K' a w') (hh : qOp P ops C i K a) :
    wpOpIn (Fr r) 0 P ops Q' i K' a w := by
  unfold qOp at hh
  unfold wpOpIn
  cases ho : ops[i]? with
  | none => simp only [ho] at hh; exact h _ _ hw hh
  | some o =>
    simp only [ho] at hh
    simp only
    split
    · rename_i hwn; simp only [hwn, if_true] at hh; exact wpIn_of_quiet (noDefer_spec hnd ho) hw h hh
    · rename_i hwn; simp only [hwn] at hh; exact ⟨fun _ _ => trivial, h _ _ hw hh⟩

theorem wpAnyIn_of_quiet {md : Region.Mode} {K : Act → Prop} {Q' : Exit → Act → World → Prop} (hnd : noDefer ops = true) (hQ : ∀ a w, C w → K a → Q' .normal a w) : ∀ (fuel : Nat) (listed : Array Bool) (a : Act) (w : World), C w →
    wpAnyQ P md ops C K fuel listed a → wpAnyIn (Fr r) 0 P md ops Q' fuel listed a w
  | 0, _, _, _, hw, h => ⟨h.1, hQ _ _ hw h.2⟩
  | fuel + 1, _, _, _, hw, h => ⟨fun e => hQ _ _ hw (h.1 e), fun i hi => wpOpIn_of_qOp hnd hw (fun a w' hw' h' => wpAnyIn_of_quiet hnd hQ fuel _ a w' hw' h') (h.2 i hi)⟩

/-- A region that draws its order: one walk, each operation of which leaves the world in the class C and yields one value in all of C. -/
theorem WC.quiet {id : Nat} (C : World → Prop) (hm : P.follows .mixedOrders = true) (hB : Region.lexB .any os.toArray = true) (hnd : noDefer os.toArray = true) (hC : C w.drew)
    (h : WQ P C os.toArray (fun a => ∀ w', C w' → Q .normal a w') os l d) : WC P r (.region id os.toArray true) Q l d w := by
  refine ⟨wpIn_region_any hm ?_⟩
  simp only [Region.lexB, Bool.and_eq_true] at hB
  refine wpAnyIn_of_quiet (C := C) hnd (K := fun a => ∀ w', C w' → Q .normal a w') (fun _ w' hw' h => h w' hw') _ _ _ _ hC ?_
  have := wpAnyQ_lex (C := C) (md := .any) hB.1 os 0 (Array.replicate os.toArray.size false) (St l d) (by simp) (by simpa using hB.2) h.out
  simpa using this

theorem WQ.id (h : WQ P C ops K os l d) : WQ P C ops K os l d := h
theorem WQ.nil (h : K (St l d)) : WQ P C ops K [] l d := ⟨h⟩
theorem WQ.step {op : Op} (h : Oper.quiet P ⟨dst, op, ty, pos, af, none⟩ (St l d) C (wpQuiet P ops C K os)) : WQ P C ops K (⟨dst, op, ty, pos, af, none⟩ :: os) l d := ⟨by
  simp only [wpQuiet, Region.wanted, if_true]; exact h⟩
theorem WQ.x {op : Op} (hx : ∀ w, C w → Runs P l op ty w v) (hl : put l dst v = l') (h : WQ P C ops K os l' d) : WQ P C ops K (⟨dst, op, ty, pos, af, none⟩ :: os) l d :=
  WQ.step ⟨v, fun w hw => by
    unfold Oper.quietAt
    rw [(hx w hw).out d dst pos af]
    exact ⟨rfl, rfl⟩, by rw [St_put, hl]; exact h.out⟩
theorem WQ.call {f : FuncId} {fn : Func} {as : List Operand} {vs : List Value} {ts : Array TypeId} {T : TypeId} {R : World → Ending → World → Prop} [H : Fun P f fn] (ha : as.map (ev l) = vs) (hc : ∀ w, Calls P f vs.toArray w (R w))
    (hR : ∀ w, C w → ∀ e w', R w e w' → e = .returned v ∧ C w') (hl : put l dst v = l') (h : WQ P C ops K os l' d) :
    WQ P C ops K (⟨dst, .call { callee := .value (.func f), args := as.toArray, argTypes := ts }, T, pos, af, none⟩ :: os) l d :=
  WQ.step ⟨v, fun w hw => by
    have : (St l d).eval = ev l := funext (St_eval l d)
    have e : (callFunc f vs.toArray).run P w = .ok (.enter f vs.toArray) w := by simp only [callFunc, Sem.run_bind, run_program, Result.andThen_ok, H.out, H.named, H.body, Bool.false_eq_true, if_false]; rfl
    unfold Oper.quietAt
    have : (execOp (St l d).eval ⟨dst, .call { callee := .value (.func f), args := as.toArray, argTypes := ts }, T, pos, af, none⟩).run P w = .ok (.enter f vs.toArray) w := by
      simp [execOp, resolve, this, ev, Deferred.ofValue, invoke, ha, e]
    rw [this]
    exact ⟨rfl, (hc w).mono (hR w hw)⟩, by rw [St_put, hl]; exact h.out⟩
theorem WQ.callC {f : FuncId} {fn : Func} {as : List Operand} {vs : List Value} {ts : Array TypeId} {T : TypeId} {R : World → Ending → World → Prop} [H : Fun P f fn] (ha : as.map (ev l) = vs) (hc : ∀ w, C w → Calls P f vs.toArray w (R w))
    (hR : ∀ w, C w → ∀ e w', R w e w' → e = .returned v ∧ C w') (hl : put l dst v = l') (h : WQ P C ops K os l' d) :
    WQ P C ops K (⟨dst, .call { callee := .value (.func f), args := as.toArray, argTypes := ts }, T, pos, af, none⟩ :: os) l d :=
  WQ.step ⟨v, fun w hw => by
    have : (St l d).eval = ev l := funext (St_eval l d)
    have e : (callFunc f vs.toArray).run P w = .ok (.enter f vs.toArray) w := by simp only [callFunc, Sem.run_bind, run_program, Result.andThen_ok, H.out, H.named, H.body, Bool.false_eq_true, if_false]; rfl
    unfold Oper.quietAt
    have : (execOp (St l d).eval ⟨dst, .call { callee := .value (.func f), args := as.toArray, argTypes := ts }, T, pos, af, none⟩).run P w = .ok (.enter f vs.toArray) w := by
      simp [execOp, resolve, this, ev, Deferred.ofValue, invoke, ha, e]
    rw [this]
    exact ⟨rfl, (hc w hw).mono (hR w hw)⟩, by rw [St_put, hl]; exact h.out⟩
theorem WQ.cid {op : Op} (h : WQ P C ops K (⟨dst, op, ty, pos, af, none⟩ :: os) l d) : WQ P C ops K (⟨dst, op, ty, pos, af, none⟩ :: os) l d := h
theorem WQ.gid {op : Op} {j : Nat} {b : Bool} (h : WQ P C ops K (⟨dst, op, ty, pos, af, some (j, b)⟩ :: os) l d) : WQ P C ops K (⟨dst, op, ty, pos, af, some (j, b)⟩ :: os) l d := h
theorem WQ.on {op : Op} {j : Nat} {b : Bool} (hy : yielded ops l.toArray j = some b) (h : WQ P C ops K (⟨dst, op, ty, pos, af, none⟩ :: os) l d) : WQ P C ops K (⟨dst, op, ty, pos, af, some (j, b)⟩ :: os) l d := ⟨by
  have h := h.out
  simp only [wpQuiet, Region.wanted, if_true] at h
  simp only [wpQuiet, Region.wanted, hy, beq_self_eq_true, if_true]
  exact h⟩
theorem WQ.off {op : Op} {j : Nat} {b c : Bool} (hy : yielded ops l.toArray j = some c) (hbc : (c == b) = false) (hl : put l dst undef = l') (h : WQ P C ops K os l' d) : WQ P C ops K (⟨dst, op, ty, pos, af, some (j, b)⟩ :: os) l d := ⟨by
  have hw : Region.wanted ⟨dst, op, ty, pos, af, some (j, b)⟩ (yielded ops l.toArray) = false := by
    simp only [Region.wanted, hy]
    simpa using hbc
  simp only [wpQuiet, hw]
  rw [St_put, hl]; exact h.out⟩
theorem WQ.fin {w0 : World} {M : List Nat} {Fs : List Frag} (h : ∀ w, Goes w0 M Fs w → Q .normal (St l d) w) : (fun a => ∀ w', (fun w => Goes w0 M Fs w) w' → Q .normal a w') (St l d) := h
end

section
variable {P : Program} {r : Option Nat} {Q : Exit → Act → World → Prop} {l l' : List Value} {d : List Deferred} {w w0 : World} {M : List Nat} {Fs : List Frag} {K : Act → Prop}
variable {ops : Array Oper} {os : List Oper} {dst : Option Tmp} {ty : TypeId} {pos : String} {af : Array Edge} {v : Value}
/-- Operations that only read, or may only read (calls). -/
def quietOp : Op → Bool
  | .alloc _ | .box .. | .buildSlice .. | .store .. | .makeMap .. | .makeSlice .. | .mapUpdate .. | .mapEntry .. | .entryStore .. => false
  | .call c => match c.callee with
    | .builtin b => match b with
      | .append | .copy | .delete | .clear => false
      | _ => true
    | _ => true
  | _ => true
theorem WC.quietG {id : Nat} (hg : Goes w0 M Fs w) (h : WQ P (fun w => Goes w0 M Fs w) os.toArray (fun a => ∀ w', Goes w0 M Fs w' → Q .normal a w') os l d)
    (hm : P.follows .mixedOrders = true := by kernel_rfl) (hB : Region.lexB .any os.toArray = true := by kernel_rfl) (hnd : noDefer os.toArray = true := by kernel_rfl) (hq : os.all (fun o => quietOp o.op) = true := by exact rfl) : WC P r (.region id os.toArray true) Q l d w :=
  WC.quiet _ hm hB hnd hg.drew h
theorem WQ.pure {f : FuncId} {fn : Func} {as : List Operand} {vs : List Value} {ts : Array TypeId} {T : TypeId} [H : Fun P f fn] (h : WQ P (fun w => Goes w0 M Fs w) ops K os l' d) (ha : as.map (ev l) = vs := by first | (simp only [ev, gt, put, List.set_cons_succ, List.set_cons_zero, Nat.zero_add, Nat.add_zero, Nat.mul_one, Nat.reduceAdd, Nat.reduceMul, Int.toNat_natCast, Int.reduceToNat, List.map_cons, List.map_nil, List.cons_append, List.nil_append]; exact rfl) | simp only [ev, gt, put, List.set_cons_succ, List.set_cons_zero, Nat.zero_add, Nat.add_zero, Nat.mul_one, Nat.reduceAdd, Nat.reduceMul, Int.toNat_natCast, Int.reduceToNat, List.map_cons, List.map_nil, List.cons_append, List.nil_append]) (hc : ∀ w, Goes w0 M Fs w → Calls P f vs.toArray w (fun e w' => e = .returned v ∧ Goes w [] [] w') := by intro w hg; first | with_reducible exact p1 hg | with_reducible exact p2 hg | with_reducible exact p3 hg | with_reducible exact p4 hg | with_reducible exact p5 hg | with_reducible exact p6 hg | with_reducible exact p1 .. | with_reducible exact p2 .. | with_reducible exact p3 .. | with_reducible exact p4 .. | with_reducible exact p5 .. | with_reducible exact p6 ..)
    (hl : put l dst v = l' := by first | (simp only [ev, gt, put, List.set_cons_succ, List.set_cons_zero, Nat.zero_add, Nat.add_zero, Nat.mul_one, Nat.reduceAdd, Nat.reduceMul, Int.toNat_natCast, Int.reduceToNat, List.map_cons, List.map_nil, List.cons_append, List.nil_append]; exact rfl) | simp only [ev, gt, put, List.set_cons_succ, List.set_cons_zero, Nat.zero_add, Nat.add_zero, Nat.mul_one, Nat.reduceAdd, Nat.reduceMul, Int.toNat_natCast, Int.reduceToNat, List.map_cons, List.map_nil, List.cons_append, List.nil_append]) :
    WQ P (fun w => Goes w0 M Fs w) ops K (⟨dst, .call { callee := .value (.func f), args := as.toArray, argTypes := ts }, T, pos, af, none⟩ :: os) l d :=
  WQ.callC ha hc (fun w hw e w' h2 => ⟨h2.1, hw.call00 h2.2⟩) hl h
theorem WQ.xG {op : Op} (h : WQ P (fun w => Goes w0 M Fs w) ops K os l' d) (hx : ∀ w, Goes w0 M Fs w → Runs P l op ty w v := by intro w hg; first | ((with_reducible apply is_move); exact x_move) | ((with_reducible apply is_assign); exact x_assign) | ((with_reducible apply is_load); first | exact x_load | exact x_loadA) | ((with_reducible apply is_bin); first | exact x_cmp | exact x_arith | exact x_eqBool | exact x_eqStr | exact x_eqPtrNil | exact x_eqMapNil | exact x_eqSliceNil | exact x_eqAgg | exact x_quo | exact x_rem | exact x_addStr) | ((with_reducible apply is_fieldAddr); exact x_fieldAddr) | ((with_reducible apply is_indexAddr); first | exact x_indexAddr | exact x_indexAddrArr) | ((with_reducible apply is_field); first | exact x_field1 | exact x_fieldA) | ((with_reducible apply is_un); first | exact x_not | exact x_neg) | ((with_reducible apply is_pick); exact x_pick) | ((with_reducible apply is_builtin); first | exact x_lenSlice | exact x_lenString | exact x_min | exact x_max) | ((with_reducible apply is_extract); exact x_extract) | ((with_reducible apply is_nilCheck); exact x_nilCheck) | ((with_reducible apply is_makeFunc); exact x_makeFunc) | ((with_reducible apply is_build); exact x_build) | ((with_reducible apply is_convert); exact x_convInt) | ((with_reducible apply is_index); exact x_indexArr) | ((with_reducible apply is_slice); first | exact x_sliceLH | exact x_sliceH | exact x_sliceL)) (hl : put l dst v = l' := by first | (simp only [ev, gt, put, List.set_cons_succ, List.set_cons_zero, Nat.zero_add, Nat.add_zero, Nat.mul_one, Nat.reduceAdd, Nat.reduceMul, Int.toNat_natCast, Int.reduceToNat, List.map_cons, List.map_nil, List.cons_append, List.nil_append]; exact rfl) | simp only [ev, gt, put, List.set_cons_succ, List.set_cons_zero, Nat.zero_add, Nat.add_zero, Nat.mul_one, Nat.reduceAdd, Nat.reduceMul, Int.toNat_natCast, Int.reduceToNat, List.map_cons, List.map_nil, List.cons_append, List.nil_append]) : WQ P (fun w => Goes w0 M Fs w) ops K (⟨dst, op, ty, pos, af, none⟩ :: os) l d :=
  WQ.x hx hl h
theorem WQ.offN {C : World → Prop} {op : Op} {j : Nat} {b c : Bool} (hy : yielded ops l.toArray j = some c) (hbc : (c == b) = false) (h : WQ P C ops K os l' d) (hl : put l dst undef = l' := by first | (simp only [ev, gt, put, List.set_cons_succ, List.set_cons_zero, Nat.zero_add, Nat.add_zero, Nat.mul_one, Nat.reduceAdd, Nat.reduceMul, Int.toNat_natCast, Int.reduceToNat, List.map_cons, List.map_nil, List.cons_append, List.nil_append]; exact rfl) | simp only [ev, gt, put, List.set_cons_succ, List.set_cons_zero, Nat.zero_add, Nat.add_zero, Nat.mul_one, Nat.reduceAdd, Nat.reduceMul, Int.toNat_natCast, Int.reduceToNat, List.map_cons, List.map_nil, List.cons_append, List.nil_append]) : WQ P C ops K (⟨dst, op, ty, pos, af, some (j, b)⟩ :: os) l d := WQ.off hy hbc hl h
theorem WQ.nilG (h : ∀ w', Goes w0 M Fs w' → Q .normal (St l d) w') : WQ P (fun w => Goes w0 M Fs w) ops (fun a => ∀ w', Goes w0 M Fs w' → Q .normal a w') [] l d := WQ.nil h
end

/-! ## Loops -/

def setAll : List Value → List Tmp → List Value → List Value
  | l, t :: ts, v :: vs => setAll (l.set t v) ts vs
  | l, _, _ => l

theorem set_gt (l : List Value) (t : Nat) : l.set t (gt l t) = l := by
  induction l generalizing t with
  | nil => rfl
  | cons v l ih => cases t with
    | zero => rfl
    | succ t => simp only [List.set_cons_succ, gt, ih t]

theorem setAll_self (X : List Tmp) (l : List Value) : setAll l X (X.map (gt l)) = l := by
  induction X with
  | nil => rfl
  | cons t X ih => simp only [List.map_cons, setAll, set_gt, ih]

theorem len_cons {α : Type} {n : Nat} {xs : List α} (h : xs.length = n + 1) : ∃ x ys, xs = x :: ys ∧ ys.length = n := by
  cases xs with
  | nil => simp at h
  | cons x ys => exact ⟨x, ys, rfl, by simpa using h⟩
theorem len_nil {α : Type} {xs : List α} (h : xs.length = 0) : xs = [] := List.eq_nil_of_length_eq_zero h

/-- A loop that turns the slots X. -/
theorem WC.loopS {P : Program} {r : Option Nat} {Q : Exit → Act → World → Prop} {l : List Value} {d : List Deferred} {w : World} {c : Code} (X : List Tmp) (I : List Value → List Deferred → World → Prop) (μ : List Value → List Deferred → World → Nat)
    (h0 : I (X.map (gt l)) d w)
    (round : ∀ xs d w, xs.length = X.length → I xs d w → ∀ K : Act → World → Prop, (∀ l' d' w', setAll l X (X.map (gt l')) = l' → I (X.map (gt l')) d' w' → μ (X.map (gt l')) d' w' < μ xs d w → K (St l' d') w') → WC P r c (Exit.then K Q) (setAll l X xs) d w) :
    WC P r (.loop c) Q l d w := by
  refine WC.loop (fun l' d' w' => setAll l X (X.map (gt l')) = l' ∧ I (X.map (gt l')) d' w') (fun l' d' w' => μ (X.map (gt l')) d' w') ⟨setAll_self X l, h0⟩ ?_
  rintro l1 d1 w1 ⟨h1, h2⟩ K hK
  rw [← h1]
  exact round _ d1 w1 (by simp) h2 K (fun l' d' w' a b c => hK l' d' w' ⟨a, b⟩ c)

/-! ## A range over a function -/

/-- What lies in the loop's record. -/
def recO (fn : FuncId) (l : List Value) (ps : Array Tmp) (as bd : Code) (D : Nat) (s : LoopState) (pe : Option Code) : Obj :=
  .loop { state := s, pending := pe, fn, tmps := l.toArray, params := ps, assign := as, body := bd, defers := D }

section
variable {P : Program} {r : Option Nat} {Q : Exit → Act → World → Prop} {l l' : List Value} {d : List Deferred} {w w' w0 : World} {M : List Nat} {Fs Fs' : List Frag}

theorem setParams (l : List Value) : ∀ (ps : List Tmp) (xs : List Value), (ps.toArray.zip xs.toArray).foldl (fun t (p, v) => t.setIfInBounds p v) l.toArray = ((ps.zip xs).foldl (fun t (p, v) => t.set p v) l).toArray := by
  intro ps xs
  have : ps.toArray.zip xs.toArray = (ps.zip xs).toArray := by simp
  rw [this, List.foldl_toArray]
  generalize ps.zip xs = zs
  induction zs generalizing l with
  | nil => simp
  | cons z zs ih => simp only [List.foldl_cons]; rw [← ih]; simp

/-- yield, called where the loop's record lies: a round. -/
theorem yield_round {L fn D : Nat} {ll : List Value} {ps : List Tmp} {xs : List Value} {as bd : Code} (hg : w.heap[L]? = some (recO fn ll ps.toArray as bd D .ready none)) (hn : xs.length = ps.length) :
    (Instr.yield L xs.toArray).run P w = .ok (.round L fn ((ps.zip xs).foldl (fun t (p, v) => t.set p v) ll).toArray as bd) w := by
  have := run_yield (P := P) (args := xs.toArray) hg (by simpa using hn)
  rw [this, setParams]

/-- **A round**: the loop's assignments and its body, walked in the round's frame. R: what is known where it ends: of true or false, and of the world. -/
theorem round_of {L fn D : Nat} {ll l0 : List Value} {ps : Array Tmp} {as bd : Code} {R : Ending → World → Prop}
    (h : WC P (some L) as (Exit.then (fun a w1 => ∃ o, w1.heap[L]? = some (recO fn ll ps as bd D .ready none) ∧ o = recO fn ll ps as bd D .busy none ∧ bd.wpIn (Fr (some L)) 0 P (roundPost P L R) a (w1.putObj L o)) (fun _ _ _ => False)) l0 [] w) :
    RoundIn (Fr r) 0 P L fn l0.toArray as bd w R := by
  have key : RoundIn (Fr none) 0 P L fn l0.toArray as bd w R := by
    refine roundIn_of_wpIn (F := Fr none) trivial ?_
    refine wpIn_mono h.out ?_
    rintro e a w1 hq
    cases e with
    | normal =>
      obtain ⟨o, h1, rfl, h2⟩ := hq
      exact ⟨_, run_beginRound h1 rfl, h2⟩
    | _ => exact hq.elim
  exact key

/-- Where a round's body ends. -/
theorem roundEnd {L fn D : Nat} {ll : List Value} {ps : Array Tmp} {as bd : Code} {R : Ending → World → Prop} {a : Act} (hg : w.heap[L]? = some (recO fn ll ps as bd D .busy none))
    (h : R (.returned (.bool true)) (w.putObj L (recO fn ll ps as bd D .ready none))) : roundPost P L R .normal a w :=
  ⟨_, _, run_endRound (P := P) none hg, h⟩
theorem roundRet {L fn D : Nat} {ll : List Value} {ps : Array Tmp} {as bd : Code} {R : Ending → World → Prop} {a : Act} (hg : w.heap[L]? = some (recO fn ll ps as bd D .busy none))
    (h : R (.returned (.bool false)) (w.putObj L (recO fn ll ps as bd D .done (some .ret)))) : roundPost P L R .ret a w :=
  ⟨_, _, run_endRound (P := P) (some .ret) hg, h⟩
theorem roundExit {L fn D : Nat} {ll : List Value} {ps : Array Tmp} {as bd : Code} {R : Ending → World → Prop} {a : Act} {id : Nat} (hg : w.heap[L]? = some (recO fn ll ps as bd D .busy none))
    (h : R (.returned (.bool false)) (w.putObj L (recO fn ll ps as bd D .done (some (.exit id))))) : roundPost P L R (.exit id) a w :=
  ⟨_, _, run_endRound (P := P) (some (.exit id)) hg, h⟩

def mark (D : Nat) : Deferred := { target := .collected D, args := #[] }

/-- **A range over a function**, outermost: the iterator f with what it has captured is called with the yield of the new loop L. -/
theorem WC.rangeFunc {g : Operand} {ps : Array Tmp} {as bd : Code} {f : FuncId} {cs : List Value} {fd : Func} [H : Fun P f fd] (hx : ev l g = .func (.func f) #[] cs.toArray) (hg : Goes w0 M Fs w)
    (h : ∀ (fn D L : Nat) (w1 : World), Goes w0 M ([(L, recO fn l ps as bd D .ready none)] :: [(D, .deferred (some []))] :: Fs) w1 →
      Calls P f ((.func (.yield L) #[] #[] :: cs).toArray) w1 (fun e w2 => (∃ v, e = .returned v) ∧
        ((w2.heap[L]? = some (recO fn l ps as bd D .ready none) ∧ Q .normal (St l (mark D :: d)) (w2.putObj L (recO fn l ps as bd D .exhausted none))) ∨
         (∃ c, w2.heap[L]? = some (recO fn l ps as bd D .done (some c)) ∧ WC P none c Q l (mark D :: d) (w2.putObj L (recO fn l ps as bd D .exhausted (some c))))))) :
    WC P none (.rangeFunc g ps as bd) Q l d w := by
  refine ⟨wpIn_rangeFunc ?_⟩
  intro fn _
  have hg1 := (hg.alloc (.deferred (some []))).alloc (recO fn l ps as bd w.heap.size .ready none)
  have hsz : (w.alloc (.deferred (some []))).heap.size = w.heap.size + 1 := World.size_alloc _ _
  rw [hsz] at hg1
  have hrun := run_enterLoop_outer (P := P) fn l.toArray ps as bd (w := w)
  obtain ⟨w1, hw1⟩ : ∃ w1, w1 = (w.alloc (.deferred (some []))).alloc (recO fn l ps as bd w.heap.size .ready none) := ⟨_, rfl⟩
  have hcall := h fn w.heap.size (w.heap.size + 1) w1 (hw1 ▸ hg1)
  have ec : ∀ as', (callFunc f as').run P w1 = .ok (.enter f as') w1 :=
    fun as' => by simp only [callFunc, Sem.run_bind, run_program, Result.andThen_ok, H.out, H.named, H.body, Bool.false_eq_true, if_false]; rfl
  refine ⟨w.heap.size + 1, [mark w.heap.size], w1, { target := .fn (.func f) cs.toArray, args := #[.func (.yield (w.heap.size + 1)) #[] #[]] }, w1, f, #[.func (.yield (w.heap.size + 1)) #[] #[]] ++ cs.toArray, w1,
    by rw [hw1]; exact hrun, ?_, fun _ _ => trivial, ?_, fun h => by simp [Fr] at h, ?_⟩
  · simp only [resolve, St_eval, hx]
    simp [go_sem]
  · simp [invoke, ec]
  · have e : (#[.func (.yield (w.heap.size + 1)) #[] #[]] ++ cs.toArray : Array Value) = (.func (.yield (w.heap.size + 1)) #[] #[] :: cs).toArray := by simp
    rw [e]
    refine callsIn_fr (hcall.mono ?_)
    rintro e w2 ⟨⟨v, rfl⟩, ⟨hl, hq⟩ | ⟨c, hl, hq⟩⟩
    · exact ⟨none, _, run_endLoop (P := P) hl (by simp), hq⟩
    · exact ⟨some c, _, run_endLoop (P := P) hl (by simp), hq.out⟩

/-! The same, by what is owned. -/
section
variable {L fn D : Nat} {ll : List Value} {ps : Array Tmp} {as bd : Code} {R : Ending → World → Prop} {X : Exit → Act → World → Prop} {Y : Prop} {ds : List Deferred}
theorem round_body (hg : Goes w0 M Fs w) (hT : Turn L (recO fn ll ps as bd D .ready none) (recO fn ll ps as bd D .busy none) Fs Fs') (h : ∀ w', Goes w0 M Fs' w' → WC P (some L) bd (roundPost P L R) l d w') :
    Exit.then (fun a w1 => ∃ o, w1.heap[L]? = some (recO fn ll ps as bd D .ready none) ∧ o = recO fn ll ps as bd D .busy none ∧ bd.wpIn (Fr (some L)) 0 P (roundPost P L R) a (w1.putObj L o)) X .normal (St l d) w :=
  ⟨_, hT.own hg, rfl, (h _ (hT.putObj hg)).out⟩
theorem round_end (hg : Goes w0 M Fs w) (hT : Turn L (recO fn ll ps as bd D .busy none) (recO fn ll ps as bd D .ready none) Fs Fs') (h : ∀ w', Goes w0 M Fs' w' → R (.returned (.bool true)) w') : roundPost P L R .normal (St l d) w :=
  roundEnd (hT.own hg) (h _ (hT.putObj hg))
theorem round_ret (hg : Goes w0 M Fs w) (hT : Turn L (recO fn ll ps as bd D .busy none) (recO fn ll ps as bd D .done (some .ret)) Fs Fs') (h : ∀ w', Goes w0 M Fs' w' → R (.returned (.bool false)) w') : roundPost P L R .ret (St l d) w :=
  roundRet (hT.own hg) (h _ (hT.putObj hg))
theorem round_exit {id : Nat} (hg : Goes w0 M Fs w) (hT : Turn L (recO fn ll ps as bd D .busy none) (recO fn ll ps as bd D .done (some (.exit id))) Fs Fs') (h : ∀ w', Goes w0 M Fs' w' → R (.returned (.bool false)) w') : roundPost P L R (.exit id) (St l d) w :=
  roundExit (hT.own hg) (h _ (hT.putObj hg))
theorem range_norm (hg : Goes w0 M Fs w) (hT : Turn L (recO fn ll ps as bd D .ready none) (recO fn ll ps as bd D .exhausted none) Fs Fs') (h : ∀ w', Goes w0 M Fs' w' → Q .normal (St l ds) w') :
    (w.heap[L]? = some (recO fn ll ps as bd D .ready none) ∧ Q .normal (St l ds) (w.putObj L (recO fn ll ps as bd D .exhausted none))) ∨ Y := .inl ⟨hT.own hg, h _ (hT.putObj hg)⟩
theorem range_done {c : Code} (hg : Goes w0 M Fs w) (hT : Turn L (recO fn ll ps as bd D .done (some c)) (recO fn ll ps as bd D .exhausted (some c)) Fs Fs') (h : ∀ w', Goes w0 M Fs' w' → WC P none c Q l ds w') :
    Y ∨ ∃ c, w.heap[L]? = some (recO fn ll ps as bd D .done (some c)) ∧ WC P none c Q l ds (w.putObj L (recO fn ll ps as bd D .exhausted (some c))) := .inr ⟨c, hT.own hg, h _ (hT.putObj hg)⟩
end

/-- A call of yield: what a round does. -/
def Yields (P : Program) (L : Nat) (args : List Value) (w : World) (R : Ending → World → Prop) : Prop :=
  ∃ fn tmps ag bd, (Instr.yield L args.toArray).run P w = .ok (.round L fn tmps ag bd) w ∧ RoundIn (Fr none) 0 P L fn tmps ag bd w R

theorem op_yield {ops : Array Oper} {os : List Oper} {dst : Option Tmp} {pos : String} {af : Array Edge}
    {x : Operand} {L : Nat} {ags : List Operand} {vs : List Value} {ts : Array TypeId} {T : TypeId} {R : Ending → World → Prop} (hx : ev l x = .func (.yield L) #[] #[]) (ha : ags.map (ev l) = vs) (hy : Yields P L vs w R)
    (h : ∀ e w'', R e w'' → ∃ v, e = .returned v ∧ WO P r ops Q os (put l dst v) d w'') :
    WO P r ops Q (⟨dst, .call { callee := .value x, args := ags.toArray, argTypes := ts }, T, pos, af, none⟩ :: os) l d w := by
  obtain ⟨fn, tmps, a, bd, h1, h2⟩ := hy
  refine WO.round (by simp) ?_ (show RoundIn (Fr r) 0 P L fn tmps a bd w R from h2) h
  have : (St l d).eval = ev l := funext (St_eval l d)
  simp only [execOp, resolve, this, hx, Deferred.ofValue, invoke, List.map_toArray, Sem.run_bind, Sem.run_pure, Result.andThen_ok, ha]
  simpa using h1

def setL (l : List Value) : List Tmp → List Value → List Value
  | p :: ps, x :: xs => setL (l.set p x) ps xs
  | _, _ => l
theorem setL_eq (l : List Value) (ps : List Tmp) (xs : List Value) : (ps.zip xs).foldl (fun t (p, v) => t.set p v) l = setL l ps xs := by
  induction ps generalizing l xs with
  | nil => cases xs <;> rfl
  | cons p ps ih => cases xs with
    | nil => rfl
    | cons x xs => simp only [List.zip_cons_cons, List.foldl_cons, setL, ih]

/-- yield's answer, by the loop's record. -/
theorem Yields.of {L fn D : Nat} {ll l0 : List Value} {ps : List Tmp} {xs : List Value} {as bd : Code} {R : Ending → World → Prop} (hg : Goes w0 M Fs w)
    (hT : Turn L (recO fn ll ps.toArray as bd D .ready none) (recO fn ll ps.toArray as bd D .busy none) Fs Fs') (hn : xs.length = ps.length) (hl : setL ll ps xs = l0)
    (h : ∀ X, WC P (some L) as (Exit.then (fun a w1 => ∃ o, w1.heap[L]? = some (recO fn ll ps.toArray as bd D .ready none) ∧ o = recO fn ll ps.toArray as bd D .busy none ∧ bd.wpIn (Fr (some L)) 0 P (roundPost P L R) a (w1.putObj L o)) X) l0 [] w) :
    Yields P L xs w R :=
  ⟨_, _, _, _, yield_round (hT.own hg) hn, round_of (by rw [setL_eq, hl]; exact h _)⟩

/-- A function on its way out, marks among its deferred calls. -/
structure LV (P : Program) (fn : Func) (R : Ending → World → Prop) (l : List Value) (ds : List Deferred) (w : World) : Prop where
  out : LeavesInM (Fr none) 0 P fn l.toArray R ds .returning w

theorem LV.nil {fn : Func} {R : Ending → World → Prop} {vs : List Value} (hr : ResOf P l w fn.results.toList vs) (h : R (.returned (mkRes vs)) w) : LV P fn R l [] w := ⟨⟨_, hr.run, h⟩⟩
theorem LV.mark {fn : Func} {R : Ending → World → Prop} {D : Nat} {ds : List Deferred} (hg : Goes w0 M Fs w) (hT : Turn D (.deferred (some [])) (.deferred none) Fs Fs') (h : ∀ w', Goes w0 M Fs' w' → LV P fn R l ds w') : LV P fn R l (mark D :: ds) w :=
  ⟨⟨by simp, .inl ⟨D, _, rfl, run_takeDeferred (hT.own hg), (h _ (hT.putObj hg)).out⟩⟩⟩
theorem retM {fn : Func} {R : Ending → World → Prop} (h : LV P fn R l d w) : bodyPostM (Fr none) 0 P fn R .ret (St l d) w := h.out
theorem retMN {fn : Func} {R : Ending → World → Prop} (h : LV P fn R l d w) : bodyPostM (Fr none) 0 P fn R .normal (St l d) w := h.out

/-- A body that holds ranges over functions: at its end the marks are taken. -/
theorem enterM {P : Program} {f : FuncId} {fn : Func} {c : Code} {args : List Value} {l : List Value} {w : World} {R : Ending → World → Prop} (hf : P.funcs[f]? = some fn) (hb : fn.body = some c)
    (hl : args ++ List.replicate (fn.ntmps - args.length) undef = l) (h : WC P none c (bodyPostM (Fr none) 0 P fn R) l [] w) : Calls P f args.toArray w R := by
  have hc := callsIn_of_wp_marks (F := Fr none) (n := 0) (args := args.toArray) (w := w) (R := R) hf hb trivial (by
    have : args.toArray ++ Array.replicate (fn.ntmps - args.toArray.size) undef = l.toArray := by rw [← hl]; simp
    rw [this]; exact h.out) rfl
  exact calls_fr hc

end
end Go.Proofs.Ytdjepfpmoeecaaa
