/- Regions that draw their order; ranges over a function; bodies that hold such ranges. Regions that draw their order, some of whose operations turn the world. What looks at no world is taken first, one at a time; so is what only reads, if a condition S on the world tells what it reads, S is shown behind each operation that is carried out, but for the late ones, and the late ones wait for it; one that is alone to be ready is carried out. -/
import Derived.Test.YtkdidefghbeabaaGreatM02
import Derived.Deep.Quiet
import Derived.OrdersIn
namespace Go.Proofs.YtkdidefghbeabaaGreat
open Go Go.RowKit
set_option linter.unusedSimpArgs false
set_option linter.unusedVariables false

/-! ## Regions that draw their order, and only read and make -/

def noDefer (ops : Array Oper) : Bool := ops.all fun o => match o.op with | .defer _ => false | _ => true
theorem noDefer_spec {ops : Array Oper} (h : noDefer ops = true) {j : Nat} {o : Oper} (ho : ops[j]? = some o) (c : Call) : o.op ≠ .defer c := by
  unfold noDefer at h
  have := (Array.all_eq_true_iff_forall_mem.1 h) o (Array.mem_of_getElem? ho)
  intro e
  rw [e] at this
  simp at this

structure WQ (P : Program) (C : World → Prop) (ops : Array Oper) (Q : Act → Prop) (os : List Oper) (l : List Value) (d : List Deferred) : Prop where
  out : wpQuiet P ops C Q os (St l d)

section
variable {P : Program} {r : Option Nat} {Q : Exit → Act → World → Prop} {l l' : List Value} {d : List Deferred} {w : World} {C : World → Prop} {K : Act → Prop}
variable {ops : Array Oper} {os : List Oper} {dst : Option Tmp} {ty : TypeId} {pos : String} {af : Array Edge} {v : Value}

theorem semAt_fr {o : Oper} (hnd : ∀ c, o.op ≠ .defer c) (ρ : Operand → Value) : Oper.semAt (Fr r).round ρ o = execOp ρ o := by
  cases hr : (Fr r).round with
  | none => rfl
  | some x => exact Oper.semAt_some x _ _ hnd

theorem wpIn_of_quiet {o : Oper} {a : Act} {K : Act → Prop} {K' : Act → World → Prop} {Q' : Exit → Act → World → Prop} {w : World} (hnd : ∀ c, o.op ≠ .defer c) (hw : C w) (h : ∀ a w', C w' → K a → K' a w') (hh : o.quiet P a C K) :
    o.wpIn (Fr r) 0 P a w K' Q' := by
  obtain ⟨v, h1, h2⟩ := hh
  have h3 := h1 w hw
  refine ⟨fun _ _ => trivial, ?_⟩
  rw [semAt_fr hnd]
  unfold Oper.quietAt at h3
  generalize (execOp a.eval o).run P w = res at h3
  cases res with
  | halt x w' => exact h3.elim
  | ok x w' =>
    cases x <;> first
      | exact h3.elim
      | skip
    · obtain ⟨rfl, rfl⟩ := h3
      exact h _ _ hw h2
    · obtain ⟨rfl, rfl⟩ := h3
      exact h _ _ hw h2
    · obtain ⟨rfl, h3⟩ := h3
      refine ⟨fun h => by simp [Fr] at h, callsIn_fr (h3.mono ?_)⟩
      rintro e w'' ⟨rfl, hc⟩
      exact h _ _ hc h2

theorem wpOpIn_of_qOp {i : Nat} {a : Act} {K : Act → Prop} {K' : Act → World → Prop} {Q' : Exit → Act → World → Prop} {w : World} (hnd : noDefer ops = true) (hw : C w) (h : ∀ a w', C w' → K a → K' a w') (hh : qOp P ops C i K a) :
    wpOpIn (Fr r) 0 P ops Q' i K' a w := by
  unfold qOp at hh
  unfold wpOpIn
  cases ho : ops[i]? with
  | none => simp only [ho] at hh; exact h _ _ hw hh
  | some o =>
    simp only [ho] at hh
    simp only
    split
    · rename_i hwn; simp only [hwn, if_true] at hh; exact wpIn_of_quiet (noDefer_spec hnd ho) hw h hh
    · rename_i hwn; simp only [hwn] at hh; exact ⟨fun _ _ => trivial, h _ _ hw hh⟩

theorem wpAnyIn_of_quiet {md : Region.Mode} {K : Act → Prop} {Q' : Exit → Act → World → Prop} (hnd : noDefer ops = true) (hQ : ∀ a w, C w → K a → Q' .normal a w) : ∀ (fuel : Nat) (listed : Array Bool) (a : Act) (w : World), C w →
    wpAnyQ P md ops C K fuel listed a → wpAnyIn (Fr r) 0 P md ops Q' fuel listed a w
  | 0, _, _, _, hw, h => ⟨h.1, hQ _ _ hw h.2⟩
  | fuel + 1, _, _, _, hw, h => ⟨fun e => hQ _ _ hw (h.1 e), fun i hi => wpOpIn_of_qOp hnd hw (fun a w' hw' h' => wpAnyIn_of_quiet hnd hQ fuel _ a w' hw' h') (h.2 i hi)⟩

/-- A region that draws its order: one walk, each operation of which leaves the world in the class C and yields one value in all of C. -/
theorem WC.quiet {id : Nat} (C : World → Prop) (hm : P.follows .mixedOrders = true) (hB : Region.lexB .any os.toArray = true) (hnd : noDefer os.toArray = true) (hC : C w.drew)
    (h : WQ P C os.toArray (fun a => ∀ w', C w' → Q .normal a w') os l d) : WC P r (.region id os.toArray true) Q l d w := by
  refine ⟨wpIn_region_any hm ?_⟩
  simp only [Region.lexB, Bool.and_eq_true] at hB
  refine wpAnyIn_of_quiet (C := C) hnd (K := fun a => ∀ w', C w' → Q .normal a w') (fun _ w' hw' h => h w' hw') _ _ _ _ hC ?_
  have := wpAnyQ_lex (C := C) (md := .any) hB.1 os 0 (Array.replicate os.toArray.size false) (St l d) (by simp) (by simpa using hB.2) h.out
  simpa using this

theorem WQ.id (h : WQ P C ops K os l d) : WQ P C ops K os l d := h
theorem WQ.nil (h : K (St l d)) : WQ P C ops K [] l d := ⟨h⟩
theorem WQ.step {op : Op} (h : Oper.quiet P ⟨dst, op, ty, pos, af, none⟩ (St l d) C (wpQuiet P ops C K os)) : WQ P C ops K (⟨dst, op, ty, pos, af, none⟩ :: os) l d := ⟨by
  simp only [wpQuiet, Region.wanted, if_true]; exact h⟩
theorem WQ.x {op : Op} (hx : ∀ w, C w → Runs P l op ty w v) (hl : put l dst v = l') (h : WQ P C ops K os l' d) : WQ P C ops K (⟨dst, op, ty, pos, af, none⟩ :: os) l d :=
  WQ.step ⟨v, fun w hw => by
    unfold Oper.quietAt
    rw [(hx w hw).out d dst pos af]
    exact ⟨rfl, rfl⟩, by rw [St_put, hl]; exact h.out⟩
theorem WQ.call {f : FuncId} {fn : Func} {as : List Operand} {vs : List Value} {ts : Array TypeId} {T : TypeId} {R : World → Ending → World → Prop} [H : Fun P f fn] (ha : as.map (ev l) = vs) (hc : ∀ w, Calls P f vs.toArray w (R w))
    (hR : ∀ w, C w → ∀ e w', R w e w' → e = .returned v ∧ C w') (hl : put l dst v = l') (h : WQ P C ops K os l' d) :
    WQ P C ops K (⟨dst, .call { callee := .value (.func f), args := as.toArray, argTypes := ts }, T, pos, af, none⟩ :: os) l d :=
  WQ.step ⟨v, fun w hw => by
    have : (St l d).eval = ev l := funext (St_eval l d)
    have e : (callFunc f vs.toArray).run P w = .ok (.enter f vs.toArray) w := by simp only [callFunc, Sem.run_bind, run_program, Result.andThen_ok, H.out, H.named, H.body, Bool.false_eq_true, if_false]; rfl
    unfold Oper.quietAt
    have : (execOp (St l d).eval ⟨dst, .call { callee := .value (.func f), args := as.toArray, argTypes := ts }, T, pos, af, none⟩).run P w = .ok (.enter f vs.toArray) w := by
      simp [execOp, resolve, this, ev, Deferred.ofValue, invoke, ha, e]
    rw [this]
    exact ⟨rfl, (hc w).mono (hR w hw)⟩, by rw [St_put, hl]; exact h.out⟩
theorem WQ.callC {f : FuncId} {fn : Func} {as : List Operand} {vs : List Value} {ts : Array TypeId} {T : TypeId} {R : World → Ending → World → Prop} [H : Fun P f fn] (ha : as.map (ev l) = vs) (hc : ∀ w, C w → Calls P f vs.toArray w (R w))
    (hR : ∀ w, C w → ∀ e w', R w e w' → e = .returned v ∧ C w') (hl : put l dst v = l') (h : WQ P C ops K os l' d) :
    WQ P C ops K (⟨dst, .call { callee := .value (.func f), args := as.toArray, argTypes := ts }, T, pos, af, none⟩ :: os) l d :=
  WQ.step ⟨v, fun w hw => by
    have : (St l d).eval = ev l := funext (St_eval l d)
    have e : (callFunc f vs.toArray).run P w = .ok (.enter f vs.toArray) w := by simp only [callFunc, Sem.run_bind, run_program, Result.andThen_ok, H.out, H.named, H.body, Bool.false_eq_true, if_false]; rfl
    unfold Oper.quietAt
    have : (execOp (St l d).eval ⟨dst, .call { callee := .value (.func f), args := as.toArray, argTypes := ts }, T, pos, af, none⟩).run P w = .ok (.enter f vs.toArray) w := by
      simp [execOp, resolve, this, ev, Deferred.ofValue, invoke, ha, e]
    rw [this]
    exact ⟨rfl, (hc w hw).mono (hR w hw)⟩, by rw [St_put, hl]; exact h.out⟩
theorem WQ.cid {op : Op} (h : WQ P C ops K (⟨dst, op, ty, pos, af, none⟩ :: os) l d) : WQ P C ops K (⟨dst, op, ty, pos, af, none⟩ :: os) l d := h
theorem WQ.gid {op : Op} {j : Nat} {b : Bool} (h : WQ P C ops K (⟨dst, op, ty, pos, af, some (j, b)⟩ :: os) l d) : WQ P C ops K (⟨dst, op, ty, pos, af, some (j, b)⟩ :: os) l d := h
theorem WQ.on {op : Op} {j : Nat} {b : Bool} (hy : yielded ops l.toArray j = some b) (h : WQ P C ops K (⟨dst, op, ty, pos, af, none⟩ :: os) l d) : WQ P C ops K (⟨dst, op, ty, pos, af, some (j, b)⟩ :: os) l d := ⟨by
  have h := h.out
  simp only [wpQuiet, Region.wanted, if_true] at h
  simp only [wpQuiet, Region.wanted, hy, beq_self_eq_true, if_true]
  exact h⟩
theorem WQ.off {op : Op} {j : Nat} {b c : Bool} (hy : yielded ops l.toArray j = some c) (hbc : (c == b) = false) (hl : put l dst undef = l') (h : WQ P C ops K os l' d) : WQ P C ops K (⟨dst, op, ty, pos, af, some (j, b)⟩ :: os) l d := ⟨by
  have hw : Region.wanted ⟨dst, op, ty, pos, af, some (j, b)⟩ (yielded ops l.toArray) = false := by
    simp only [Region.wanted, hy]
    simpa using hbc
  simp only [wpQuiet, hw]
  rw [St_put, hl]; exact h.out⟩
end

section
variable {P : Program} {r : Option Nat} {Q : Exit → Act → World → Prop} {l l' : List Value} {d : List Deferred} {w w0 : World} {M : List Nat} {Fs : List Frag} {K : Act → Prop}
variable {ops : Array Oper} {os : List Oper} {dst : Option Tmp} {ty : TypeId} {pos : String} {af : Array Edge} {v : Value}
/-- Operations that only read, or may only read (calls). -/
def quietOp : Op → Bool
  | .alloc _ | .box .. | .buildSlice .. | .store .. | .makeMap .. | .makeSlice .. | .mapUpdate .. | .mapEntry .. | .entryStore .. => false
  | .call c => match c.callee with
    | .builtin b => match b with
      | .append | .copy | .delete | .clear => false
      | _ => true
    | _ => true
  | _ => true
theorem WC.quietG {id : Nat} (hg : Goes w0 M Fs w) (h : WQ P (fun w => Goes w0 M Fs w) os.toArray (fun a => ∀ w', Goes w0 M Fs w' → Q .normal a w') os l d)
    (hm : P.follows .mixedOrders = true := by kernel_rfl) (hB : Region.lexB .any os.toArray = true := by kernel_rfl) (hnd : noDefer os.toArray = true := by kernel_rfl) (hq : os.all (fun o => quietOp o.op) = true := by exact rfl) : WC P r (.region id os.toArray true) Q l d w :=
  WC.quiet _ hm hB hnd hg.drew h
theorem WQ.pure {f : FuncId} {fn : Func} {as : List Operand} {vs : List Value} {ts : Array TypeId} {T : TypeId} [H : Fun P f fn] (h : WQ P (fun w => Goes w0 M Fs w) ops K os l' d) (ha : as.map (ev l) = vs := by first | (simp only [ev, gt, put, List.set_cons_succ, List.set_cons_zero, Nat.zero_add, Nat.add_zero, Nat.mul_one, Nat.reduceAdd, Nat.reduceMul, Int.toNat_natCast, Int.reduceToNat, List.map_cons, List.map_nil, List.cons_append, List.nil_append]; exact rfl) | simp only [ev, gt, put, List.set_cons_succ, List.set_cons_zero, Nat.zero_add, Nat.add_zero, Nat.mul_one, Nat.reduceAdd, Nat.reduceMul, Int.toNat_natCast, Int.reduceToNat, List.map_cons, List.map_nil, List.cons_append, List.nil_append]) (hc : ∀ w, Goes w0 M Fs w → Calls P f vs.toArray w (fun e w' => e = .returned v ∧ Goes w [] [] w') := by intro w hg; first | with_reducible exact p1 hg | with_reducible exact p2 hg | with_reducible exact p3 hg | with_reducible exact p4 hg | with_reducible exact p5 hg | with_reducible exact p6 hg | with_reducible exact p7 hg | with_reducible exact p8 hg | with_reducible exact p1 .. | with_reducible exact p2 .. | with_reducible exact p3 .. | with_reducible exact p4 .. | with_reducible exact p5 .. | with_reducible exact p6 .. | with_reducible exact p7 .. | with_reducible exact p8 ..)
    (hl : put l dst v = l' := by first | (simp only [ev, gt, put, List.set_cons_succ, List.set_cons_zero, Nat.zero_add, Nat.add_zero, Nat.mul_one, Nat.reduceAdd, Nat.reduceMul, Int.toNat_natCast, Int.reduceToNat, List.map_cons, List.map_nil, List.cons_append, List.nil_append]; exact rfl) | simp only [ev, gt, put, List.set_cons_succ, List.set_cons_zero, Nat.zero_add, Nat.add_zero, Nat.mul_one, Nat.reduceAdd, Nat.reduceMul, Int.toNat_natCast, Int.reduceToNat, List.map_cons, List.map_nil, List.cons_append, List.nil_append]) :
    WQ P (fun w => Goes w0 M Fs w) ops K (⟨dst, .call { callee := .value (.func f), args := as.toArray, argTypes := ts }, T, pos, af, none⟩ :: os) l d :=
  WQ.callC ha hc (fun w hw e w' h2 => ⟨h2.1, hw.call00 h2.2⟩) hl h
theorem WQ.xG {op : Op} (h : WQ P (fun w => Goes w0 M Fs w) ops K os l' d) (hx : ∀ w, Goes w0 M Fs w → Runs P l op ty w v := by intro w hg; first | ((with_reducible apply is_move); exact x_move) | ((with_reducible apply is_assign); exact x_assign) | ((with_reducible apply is_load); first | exact x_load | exact x_loadA) | ((with_reducible apply is_bin); first | exact x_cmp | exact x_arith | exact x_eqBool | exact x_eqStr | exact x_eqPtrNil | exact x_eqMapNil | exact x_eqSliceNil | exact x_eqAgg | exact x_quo | exact x_rem | exact x_addStr | exact x_eqFuncNil) | ((with_reducible apply is_fieldAddr); exact x_fieldAddr) | ((with_reducible apply is_indexAddr); first | exact x_indexAddr | exact x_indexAddrArr) | ((with_reducible apply is_field); first | exact x_field1 | exact x_fieldA) | ((with_reducible apply is_un); first | exact x_not | exact x_neg) | ((with_reducible apply is_pick); exact x_pick) | ((with_reducible apply is_builtin); first | exact x_lenSlice | exact x_lenString | exact x_min | exact x_max) | ((with_reducible apply is_extract); exact x_extract) | ((with_reducible apply is_nilCheck); exact x_nilCheck) | ((with_reducible apply is_makeFunc); exact x_makeFunc) | ((with_reducible apply is_build); exact x_build) | ((with_reducible apply is_convert); exact x_convInt) | ((with_reducible apply is_index); first | exact x_indexArr | exact x_indexStrL) | ((with_reducible apply is_slice); first | exact x_sliceLH | exact x_sliceH | exact x_sliceL | exact x_sliceHM)) (hl : put l dst v = l' := by first | (simp only [ev, gt, put, List.set_cons_succ, List.set_cons_zero, Nat.zero_add, Nat.add_zero, Nat.mul_one, Nat.reduceAdd, Nat.reduceMul, Int.toNat_natCast, Int.reduceToNat, List.map_cons, List.map_nil, List.cons_append, List.nil_append]; exact rfl) | simp only [ev, gt, put, List.set_cons_succ, List.set_cons_zero, Nat.zero_add, Nat.add_zero, Nat.mul_one, Nat.reduceAdd, Nat.reduceMul, Int.toNat_natCast, Int.reduceToNat, List.map_cons, List.map_nil, List.cons_append, List.nil_append]) : WQ P (fun w => Goes w0 M Fs w) ops K (⟨dst, op, ty, pos, af, none⟩ :: os) l d :=
  WQ.x hx hl h
theorem WQ.offN {C : World → Prop} {op : Op} {j : Nat} {b c : Bool} (hy : yielded ops l.toArray j = some c) (hbc : (c == b) = false) (h : WQ P C ops K os l' d) (hl : put l dst undef = l' := by first | (simp only [ev, gt, put, List.set_cons_succ, List.set_cons_zero, Nat.zero_add, Nat.add_zero, Nat.mul_one, Nat.reduceAdd, Nat.reduceMul, Int.toNat_natCast, Int.reduceToNat, List.map_cons, List.map_nil, List.cons_append, List.nil_append]; exact rfl) | simp only [ev, gt, put, List.set_cons_succ, List.set_cons_zero, Nat.zero_add, Nat.add_zero, Nat.mul_one, Nat.reduceAdd, Nat.reduceMul, Int.toNat_natCast, Int.reduceToNat, List.map_cons, List.map_nil, List.cons_append, List.nil_append]) : WQ P C ops K (⟨dst, op, ty, pos, af, some (j, b)⟩ :: os) l d := WQ.off hy hbc hl h
theorem WQ.offU {C : World → Prop} {op : Op} {j : Nat} {b : Bool} (hy : yielded ops l.toArray j = none) (h : WQ P C ops K os l' d) (hl : put l dst undef = l' := by first | (simp only [ev, gt, put, List.set_cons_succ, List.set_cons_zero, Nat.zero_add, Nat.add_zero, Nat.mul_one, Nat.reduceAdd, Nat.reduceMul, Int.toNat_natCast, Int.reduceToNat, List.map_cons, List.map_nil, List.cons_append, List.nil_append]; exact rfl) | simp only [ev, gt, put, List.set_cons_succ, List.set_cons_zero, Nat.zero_add, Nat.add_zero, Nat.mul_one, Nat.reduceAdd, Nat.reduceMul, Int.toNat_natCast, Int.reduceToNat, List.map_cons, List.map_nil, List.cons_append, List.nil_append]) : WQ P C ops K (⟨dst, op, ty, pos, af, some (j, b)⟩ :: os) l d := ⟨by
  have hw : Region.wanted ⟨dst, op, ty, pos, af, some (j, b)⟩ (yielded ops l.toArray) = false := by
    simp only [Region.wanted, hy]
    rfl
  simp only [wpQuiet, hw]
  rw [St_put, hl]; exact h.out⟩
theorem WQ.nilG (h : ∀ w', Goes w0 M Fs w' → Q .normal (St l d) w') : WQ P (fun w => Goes w0 M Fs w) ops (fun a => ∀ w', Goes w0 M Fs w' → Q .normal a w') [] l d := WQ.nil h
end

/-! ## Loops -/

def setAll : List Value → List Tmp → List Value → List Value
  | l, t :: ts, v :: vs => setAll (l.set t v) ts vs
  | l, _, _ => l

theorem set_gt (l : List Value) (t : Nat) : l.set t (gt l t) = l := by
  induction l generalizing t with
  | nil => rfl
  | cons v l ih => cases t with
    | zero => rfl
    | succ t => simp only [List.set_cons_succ, gt, ih t]

theorem setAll_self (X : List Tmp) (l : List Value) : setAll l X (X.map (gt l)) = l := by
  induction X with
  | nil => rfl
  | cons t X ih => simp only [List.map_cons, setAll, set_gt, ih]

theorem len_cons {α : Type} {n : Nat} {xs : List α} (h : xs.length = n + 1) : ∃ x ys, xs = x :: ys ∧ ys.length = n := by
  cases xs with
  | nil => simp at h
  | cons x ys => exact ⟨x, ys, rfl, by simpa using h⟩
theorem len_nil {α : Type} {xs : List α} (h : xs.length = 0) : xs = [] := List.eq_nil_of_length_eq_zero h

/-- A loop that turns the slots X. -/
theorem WC.loopS {P : Program} {r : Option Nat} {Q : Exit → Act → World → Prop} {l : List Value} {d : List Deferred} {w : World} {c : Code} (X : List Tmp) (I : List Value → List Deferred → World → Prop) (μ : List Value → List Deferred → World → Nat)
    (h0 : I (X.map (gt l)) d w)
    (round : ∀ xs d w, xs.length = X.length → I xs d w → ∀ K : Act → World → Prop, (∀ l' d' w', setAll l X (X.map (gt l')) = l' → I (X.map (gt l')) d' w' → μ (X.map (gt l')) d' w' < μ xs d w → K (St l' d') w') → WC P r c (Exit.then K Q) (setAll l X xs) d w) :
    WC P r (.loop c) Q l d w := by
  refine WC.loop (fun l' d' w' => setAll l X (X.map (gt l')) = l' ∧ I (X.map (gt l')) d' w') (fun l' d' w' => μ (X.map (gt l')) d' w') ⟨setAll_self X l, h0⟩ ?_
  rintro l1 d1 w1 ⟨h1, h2⟩ K hK
  rw [← h1]
  exact round _ d1 w1 (by simp) h2 K (fun l' d' w' a b c => hK l' d' w' ⟨a, b⟩ c)

/-! ## A range over a function -/

/-- What lies in the loop's record. -/
def recO (fn : FuncId) (l : List Value) (ps : Array Tmp) (as bd : Code) (D : Nat) (s : LoopState) (pe : Option Code) : Obj :=
  .loop { state := s, pending := pe, fn, tmps := l.toArray, params := ps, assign := as, body := bd, defers := D }

section
variable {P : Program} {r : Option Nat} {Q : Exit → Act → World → Prop} {l l' : List Value} {d : List Deferred} {w w' w0 : World} {M : List Nat} {Fs Fs' : List Frag}

theorem setParams (l : List Value) : ∀ (ps : List Tmp) (xs : List Value), (ps.toArray.zip xs.toArray).foldl (fun t (p, v) => t.setIfInBounds p v) l.toArray = ((ps.zip xs).foldl (fun t (p, v) => t.set p v) l).toArray := by
  intro ps xs
  have : ps.toArray.zip xs.toArray = (ps.zip xs).toArray := by simp
  rw [this, List.foldl_toArray]
  generalize ps.zip xs = zs
  induction zs generalizing l with
  | nil => simp
  | cons z zs ih => simp only [List.foldl_cons]; rw [← ih]; simp

/-- yield, called where the loop's record lies: a round. -/
theorem yield_round {L fn D : Nat} {ll : List Value} {ps : List Tmp} {xs : List Value} {as bd : Code} (hg : w.heap[L]? = some (recO fn ll ps.toArray as bd D .ready none)) (hn : xs.length = ps.length) :
    (Instr.yield L xs.toArray).run P w = .ok (.round L fn ((ps.zip xs).foldl (fun t (p, v) => t.set p v) ll).toArray as bd) w := by
  have := run_yield (P := P) (args := xs.toArray) hg (by simpa using hn)
  rw [this, setParams]

/-- **A round**: the loop's assignments and its body, walked in the round's frame. R: what is known where it ends: of true or false, and of the world. -/
theorem round_of {L fn D : Nat} {ll l0 : List Value} {ps : Array Tmp} {as bd : Code} {R : Ending → World → Prop}
    (h : WC P (some L) as (Exit.then (fun a w1 => ∃ o, w1.heap[L]? = some (recO fn ll ps as bd D .ready none) ∧ o = recO fn ll ps as bd D .busy none ∧ bd.wpIn (Fr (some L)) 0 P (roundPost P L R) a (w1.putObj L o)) (fun _ _ _ => False)) l0 [] w) :
    RoundIn (Fr r) 0 P L fn l0.toArray as bd w R := by
  have key : RoundIn (Fr none) 0 P L fn l0.toArray as bd w R := by
    refine roundIn_of_wpIn (F := Fr none) trivial ?_
    refine wpIn_mono h.out ?_
    rintro e a w1 hq
    cases e with
    | normal =>
      obtain ⟨o, h1, rfl, h2⟩ := hq
      exact ⟨_, run_beginRound h1 rfl, h2⟩
    | _ => exact hq.elim
  exact key

/-- Where a round's body ends. -/
theorem roundEnd {L fn D : Nat} {ll : List Value} {ps : Array Tmp} {as bd : Code} {R : Ending → World → Prop} {a : Act} (hg : w.heap[L]? = some (recO fn ll ps as bd D .busy none))
    (h : R (.returned (.bool true)) (w.putObj L (recO fn ll ps as bd D .ready none))) : roundPost P L R .normal a w :=
  ⟨_, _, run_endRound (P := P) none hg, h⟩
theorem roundRet {L fn D : Nat} {ll : List Value} {ps : Array Tmp} {as bd : Code} {R : Ending → World → Prop} {a : Act} (hg : w.heap[L]? = some (recO fn ll ps as bd D .busy none))
    (h : R (.returned (.bool false)) (w.putObj L (recO fn ll ps as bd D .done (some .ret)))) : roundPost P L R .ret a w :=
  ⟨_, _, run_endRound (P := P) (some .ret) hg, h⟩

def mark (D : Nat) : Deferred := { target := .collected D, args := #[] }

/-- **A range over a function**, outermost: the iterator f with what it has captured is called with the yield of the new loop L. -/
theorem WC.rangeFunc {g : Operand} {ps : Array Tmp} {as bd : Code} {f : FuncId} {cs : List Value} {fd : Func} [H : Fun P f fd] (hx : ev l g = .func (.func f) #[] cs.toArray) (hg : Goes w0 M Fs w)
    (h : ∀ (fn D L : Nat) (w1 : World), Goes w0 M ([(L, recO fn l ps as bd D .ready none)] :: [(D, .deferred (some []))] :: Fs) w1 →
      Calls P f ((.func (.yield L) #[] #[] :: cs).toArray) w1 (fun e w2 => (∃ v, e = .returned v) ∧
        ((w2.heap[L]? = some (recO fn l ps as bd D .ready none) ∧ Q .normal (St l (mark D :: d)) (w2.putObj L (recO fn l ps as bd D .exhausted none))) ∨
         (∃ c, w2.heap[L]? = some (recO fn l ps as bd D .done (some c)) ∧ WC P none c Q l (mark D :: d) (w2.putObj L (recO fn l ps as bd D .exhausted (some c))))))) :
    WC P none (.rangeFunc g ps as bd) Q l d w := by
  refine ⟨wpIn_rangeFunc ?_⟩
  intro fn _
  have hg1 := (hg.alloc (.deferred (some []))).alloc (recO fn l ps as bd w.heap.size .ready none)
  have hsz : (w.alloc (.deferred (some []))).heap.size = w.heap.size + 1 := World.size_alloc _ _
  rw [hsz] at hg1
  have hrun := run_enterLoop_outer (P := P) fn l.toArray ps as bd (w := w)
  obtain ⟨w1, hw1⟩ : ∃ w1, w1 = (w.alloc (.deferred (some []))).alloc (recO fn l ps as bd w.heap.size .ready none) := ⟨_, rfl⟩
  have hcall := h fn w.heap.size (w.heap.size + 1) w1 (hw1 ▸ hg1)
  have ec : ∀ as', (callFunc f as').run P w1 = .ok (.enter f as') w1 :=
    fun as' => by simp only [callFunc, Sem.run_bind, run_program, Result.andThen_ok, H.out, H.named, H.body, Bool.false_eq_true, if_false]; rfl
  refine ⟨w.heap.size + 1, [mark w.heap.size], w1, { target := .fn (.func f) cs.toArray, args := #[.func (.yield (w.heap.size + 1)) #[] #[]] }, w1, f, #[.func (.yield (w.heap.size + 1)) #[] #[]] ++ cs.toArray, w1,
    by rw [hw1]; exact hrun, ?_, fun _ _ => trivial, ?_, fun h => by simp [Fr] at h, ?_⟩
  · simp only [resolve, St_eval, hx]
    simp [go_sem]
  · simp [invoke, ec]
  · have e : (#[.func (.yield (w.heap.size + 1)) #[] #[]] ++ cs.toArray : Array Value) = (.func (.yield (w.heap.size + 1)) #[] #[] :: cs).toArray := by simp
    rw [e]
    refine callsIn_fr (hcall.mono ?_)
    rintro e w2 ⟨⟨v, rfl⟩, ⟨hl, hq⟩ | ⟨c, hl, hq⟩⟩
    · exact ⟨none, _, run_endLoop (P := P) hl (by simp), hq⟩
    · exact ⟨some c, _, run_endLoop (P := P) hl (by simp), hq.out⟩

/-! The same, by what is owned. -/
section
variable {L fn D : Nat} {ll : List Value} {ps : Array Tmp} {as bd : Code} {R : Ending → World → Prop} {X : Exit → Act → World → Prop} {Y : Prop} {ds : List Deferred}
theorem round_body (hg : Goes w0 M Fs w) (hT : Turn L (recO fn ll ps as bd D .ready none) (recO fn ll ps as bd D .busy none) Fs Fs') (h : ∀ w', Goes w0 M Fs' w' → WC P (some L) bd (roundPost P L R) l d w') :
    Exit.then (fun a w1 => ∃ o, w1.heap[L]? = some (recO fn ll ps as bd D .ready none) ∧ o = recO fn ll ps as bd D .busy none ∧ bd.wpIn (Fr (some L)) 0 P (roundPost P L R) a (w1.putObj L o)) X .normal (St l d) w :=
  ⟨_, hT.own hg, rfl, (h _ (hT.putObj hg)).out⟩
theorem round_end (hg : Goes w0 M Fs w) (hT : Turn L (recO fn ll ps as bd D .busy none) (recO fn ll ps as bd D .ready none) Fs Fs') (h : ∀ w', Goes w0 M Fs' w' → R (.returned (.bool true)) w') : roundPost P L R .normal (St l d) w :=
  roundEnd (hT.own hg) (h _ (hT.putObj hg))
theorem round_ret (hg : Goes w0 M Fs w) (hT : Turn L (recO fn ll ps as bd D .busy none) (recO fn ll ps as bd D .done (some .ret)) Fs Fs') (h : ∀ w', Goes w0 M Fs' w' → R (.returned (.bool false)) w') : roundPost P L R .ret (St l d) w :=
  roundRet (hT.own hg) (h _ (hT.putObj hg))
theorem range_norm (hg : Goes w0 M Fs w) (hT : Turn L (recO fn ll ps as bd D .ready none) (recO fn ll ps as bd D .exhausted none) Fs Fs') (h : ∀ w', Goes w0 M Fs' w' → Q .normal (St l ds) w') :
    (w.heap[L]? = some (recO fn ll ps as bd D .ready none) ∧ Q .normal (St l ds) (w.putObj L (recO fn ll ps as bd D .exhausted none))) ∨ Y := .inl ⟨hT.own hg, h _ (hT.putObj hg)⟩
theorem range_done {c : Code} (hg : Goes w0 M Fs w) (hT : Turn L (recO fn ll ps as bd D .done (some c)) (recO fn ll ps as bd D .exhausted (some c)) Fs Fs') (h : ∀ w', Goes w0 M Fs' w' → WC P none c Q l ds w') :
    Y ∨ ∃ c, w.heap[L]? = some (recO fn ll ps as bd D .done (some c)) ∧ WC P none c Q l ds (w.putObj L (recO fn ll ps as bd D .exhausted (some c))) := .inr ⟨c, hT.own hg, h _ (hT.putObj hg)⟩
end

/-- A call of yield: what a round does. -/
def Yields (P : Program) (L : Nat) (args : List Value) (w : World) (R : Ending → World → Prop) : Prop :=
  ∃ fn tmps ag bd, (Instr.yield L args.toArray).run P w = .ok (.round L fn tmps ag bd) w ∧ RoundIn (Fr none) 0 P L fn tmps ag bd w R

theorem op_yield {ops : Array Oper} {os : List Oper} {dst : Option Tmp} {pos : String} {af : Array Edge}
    {x : Operand} {L : Nat} {ags : List Operand} {vs : List Value} {ts : Array TypeId} {T : TypeId} {R : Ending → World → Prop} (hx : ev l x = .func (.yield L) #[] #[]) (ha : ags.map (ev l) = vs) (hy : Yields P L vs w R)
    (h : ∀ e w'', R e w'' → ∃ v, e = .returned v ∧ WO P r ops Q os (put l dst v) d w'') :
    WO P r ops Q (⟨dst, .call { callee := .value x, args := ags.toArray, argTypes := ts }, T, pos, af, none⟩ :: os) l d w := by
  obtain ⟨fn, tmps, a, bd, h1, h2⟩ := hy
  refine WO.round (by simp) ?_ (show RoundIn (Fr r) 0 P L fn tmps a bd w R from h2) h
  have : (St l d).eval = ev l := funext (St_eval l d)
  simp only [execOp, resolve, this, hx, Deferred.ofValue, invoke, List.map_toArray, Sem.run_bind, Sem.run_pure, Result.andThen_ok, ha]
  simpa using h1

def setL (l : List Value) : List Tmp → List Value → List Value
  | p :: ps, x :: xs => setL (l.set p x) ps xs
  | _, _ => l
theorem setL_eq (l : List Value) (ps : List Tmp) (xs : List Value) : (ps.zip xs).foldl (fun t (p, v) => t.set p v) l = setL l ps xs := by
  induction ps generalizing l xs with
  | nil => cases xs <;> rfl
  | cons p ps ih => cases xs with
    | nil => rfl
    | cons x xs => simp only [List.zip_cons_cons, List.foldl_cons, setL, ih]

/-- yield's answer, by the loop's record. -/
theorem Yields.of {L fn D : Nat} {ll l0 : List Value} {ps : List Tmp} {xs : List Value} {as bd : Code} {R : Ending → World → Prop} (hg : Goes w0 M Fs w)
    (hT : Turn L (recO fn ll ps.toArray as bd D .ready none) (recO fn ll ps.toArray as bd D .busy none) Fs Fs') (hn : xs.length = ps.length) (hl : setL ll ps xs = l0)
    (h : ∀ X, WC P (some L) as (Exit.then (fun a w1 => ∃ o, w1.heap[L]? = some (recO fn ll ps.toArray as bd D .ready none) ∧ o = recO fn ll ps.toArray as bd D .busy none ∧ bd.wpIn (Fr (some L)) 0 P (roundPost P L R) a (w1.putObj L o)) X) l0 [] w) :
    Yields P L xs w R :=
  ⟨_, _, _, _, yield_round (hT.own hg) hn, round_of (by rw [setL_eq, hl]; exact h _)⟩

/-- A function on its way out, marks among its deferred calls. -/
structure LV (P : Program) (fn : Func) (R : Ending → World → Prop) (l : List Value) (ds : List Deferred) (w : World) : Prop where
  out : LeavesInM (Fr none) 0 P fn l.toArray R ds .returning w

theorem LV.nil {fn : Func} {R : Ending → World → Prop} {vs : List Value} (hr : ResOf P l w fn.results.toList vs) (h : R (.returned (mkRes vs)) w) : LV P fn R l [] w := ⟨⟨_, hr.run, h⟩⟩
theorem LV.mark {fn : Func} {R : Ending → World → Prop} {D : Nat} {ds : List Deferred} (hg : Goes w0 M Fs w) (hT : Turn D (.deferred (some [])) (.deferred none) Fs Fs') (h : ∀ w', Goes w0 M Fs' w' → LV P fn R l ds w') : LV P fn R l (mark D :: ds) w :=
  ⟨⟨by simp, .inl ⟨D, _, rfl, run_takeDeferred (hT.own hg), (h _ (hT.putObj hg)).out⟩⟩⟩
theorem retM {fn : Func} {R : Ending → World → Prop} (h : LV P fn R l d w) : bodyPostM (Fr none) 0 P fn R .ret (St l d) w := h.out

/-- A body that holds ranges over functions: at its end the marks are taken. -/
theorem enterM {P : Program} {f : FuncId} {fn : Func} {c : Code} {args : List Value} {l : List Value} {w : World} {R : Ending → World → Prop} (hf : P.funcs[f]? = some fn) (hb : fn.body = some c)
    (hl : args ++ List.replicate (fn.ntmps - args.length) undef = l) (h : WC P none c (bodyPostM (Fr none) 0 P fn R) l [] w) : Calls P f args.toArray w R := by
  have hc := callsIn_of_wp_marks (F := Fr none) (n := 0) (args := args.toArray) (w := w) (R := R) hf hb trivial (by
    have : args.toArray ++ Array.replicate (fn.ntmps - args.toArray.size) undef = l.toArray := by rw [← hl]; simp
    rw [this]; exact h.out) rfl
  exact calls_fr hc

end
/-- Steps on the way of a walk: the tactics that find them stand here once. -/
structure Hd0 (p : Prop) : Prop where
  out : p
theorem zN {G G' : Prop} (g : G') (h : Hd0 G' → G := by intro hNx; (first | (with_reducible first | refine QX.next ?_ | refine WC.seq ?_ | refine WC.region ?_ | refine WC.block ?_ | refine QX.bnorm ?_ | refine QX.bret ?_ | refine QX.ret ?_ | refine QX.exit ?_ | refine QX.bsame ?_ | refine QX.bother rfl ?_ | refine WO.nil ?_ | refine WC.skip ?_ | refine WC.ret ?_ | refine WC.exit ?_) | ((with_reducible refine WC.id ?_); first | refine WC.condT rfl ?_ | refine WC.condF rfl ?_) | ((with_reducible refine WQ.cid ?_); first | refine WQ.xG ?_ | refine WQ.pure ?_) | ((with_reducible refine WQ.gid ?_); first | refine WQ.on rfl ?_ | refine WQ.offN rfl rfl ?_ | refine WQ.offU rfl ?_) | ((with_reducible refine WO.cid ?_); refine WO.x ?_) | ((with_reducible refine WO.gid ?_); first | refine WO.on rfl ?_ | refine WO.offN rfl rfl ?_ | refine WO.offU rfl ?_)); (repeat (first | (with_reducible first | refine QX.next ?_ | refine WC.seq ?_ | refine WC.region ?_ | refine WC.block ?_ | refine QX.bnorm ?_ | refine QX.bret ?_ | refine QX.ret ?_ | refine QX.exit ?_ | refine QX.bsame ?_ | refine QX.bother rfl ?_ | refine WO.nil ?_ | refine WC.skip ?_ | refine WC.ret ?_ | refine WC.exit ?_) | ((with_reducible refine WC.id ?_); first | refine WC.condT rfl ?_ | refine WC.condF rfl ?_) | ((with_reducible refine WQ.cid ?_); first | refine WQ.xG ?_ | refine WQ.pure ?_) | ((with_reducible refine WQ.gid ?_); first | refine WQ.on rfl ?_ | refine WQ.offN rfl rfl ?_ | refine WQ.offU rfl ?_) | ((with_reducible refine WO.cid ?_); refine WO.x ?_) | ((with_reducible refine WO.gid ?_); first | refine WO.on rfl ?_ | refine WO.offN rfl rfl ?_ | refine WO.offU rfl ?_))); exact hNx.out) : G := h ⟨g⟩
theorem zO {G G' : Prop} (g : G') (h : Hd0 G' → G := by intro hNx; (first | (with_reducible first | refine QX.next ?_ | refine WC.seq ?_ | refine WC.region ?_ | refine WC.block ?_ | refine QX.bnorm ?_ | refine QX.bret ?_ | refine QX.ret ?_ | refine QX.exit ?_ | refine QX.bsame ?_ | refine QX.bother rfl ?_ | refine WO.nil ?_ | refine WC.skip ?_ | refine WC.ret ?_ | refine WC.exit ?_) | ((with_reducible refine WC.id ?_); first | refine WC.condT rfl ?_ | refine WC.condF rfl ?_) | ((with_reducible refine WQ.cid ?_); first | refine WQ.xG ?_ | refine WQ.pure ?_) | ((with_reducible refine WQ.gid ?_); first | refine WQ.on rfl ?_ | refine WQ.offN rfl rfl ?_ | refine WQ.offU rfl ?_) | ((with_reducible refine WO.cid ?_); refine WO.x ?_) | ((with_reducible refine WO.gid ?_); first | refine WO.on rfl ?_ | refine WO.offN rfl rfl ?_ | refine WO.offU rfl ?_)); exact hNx.out) : G := h ⟨g⟩
theorem zB {G G' : Prop} (g : G') (h : Hd0 G' → G := by intro hNx; (with_reducible refine WO.cid ?_); (first | refine op_alloc hg ?_ | refine op_boxA hg ?_ | refine op_box1 hg ?_); exact hNx.out) : G := h ⟨g⟩
theorem zW {G G' : Prop} (g : G') (h : Hd0 G' → G := by intro hNx; (with_reducible refine WO.cid ?_); (first | refine op_st hg ?_ | refine op_stA hg ?_ | refine op_pure hg ?_); exact hNx.out) : G := h ⟨g⟩
end Go.Proofs.YtkdidefghbeabaaGreat
namespace Go.Proofs.YtkdidefghbeabaaGreat
open Go Go.RowKit
set_option linter.unusedSimpArgs false
set_option linter.unusedVariables false

section
variable {F : Fence} {n : Nat} {P : Program} {ops : Array Oper} {Q : Exit → Act → World → Prop} {md : Region.Mode} {S : World → Prop} {late : List Nat}

def YieldsS (P : Program) (ops : Array Oper) (S : World → Prop) (o : Oper) (v : Value) (a : Act) : Prop :=
  ((Region.wanted o (yielded ops a.tmps) = true ∧ ∀ w, S w → (execOp a.eval o).run P w = .ok (.value v) w) ∨ (Region.wanted o (yielded ops a.tmps) = false ∧ v = undef)) ∧ ∀ w, o.about P w a.eval = none

theorem YieldsS.wpOpIn {i : Nat} {o : Oper} {v : Value} {a : Act} (hro : F.round = none) (hi : ops[i]? = some o) (hy : YieldsS P ops S o v a)
    {K : Act → World → Prop} {w : World} (hS : S w) (h : K (a.put o.dst v) w) : wpOpIn F n P ops Q i K a w := by
  unfold Go.wpOpIn
  simp only [hi]
  have hab : ∀ f, o.about P w a.eval = some f → F.fn f := fun f hf => by rw [hy.2 w] at hf; cases hf
  rcases hy.1 with ⟨hw, hv⟩ | ⟨hw, rfl⟩
  · simp only [hw, if_true, Oper.wpIn, hro, Oper.semAt_none, hv w hS, Oper.uponIn]; exact ⟨hab, h⟩
  · simp only [hw, Bool.false_eq_true, if_false]; exact ⟨hab, h⟩

theorem YieldsS.of_same {o : Oper} {v : Value} {a a' : Act} (hy : YieldsS P ops S o v a) (he : execOp a'.eval o = execOp a.eval o)
    (hw : Region.wanted o (yielded ops a'.tmps) = Region.wanted o (yielded ops a.tmps)) (hb : ∀ w, o.about P w a'.eval = o.about P w a.eval) : YieldsS P ops S o v a' :=
  ⟨by rw [he, hw]; exact hy.1, fun w => by rw [hb w]; exact hy.2 w⟩

theorem wpOpIn_putS {j : Nat} {oi oj : Oper} {v : Value} (hro : F.round = none) (hj : ops[j]? = some oj) (hap : oi.apart ops oj = true)
    (hsi : ∀ cs b, oi.op ≠ .select cs b) (hsj : ∀ cs b, oj.op ≠ .select cs b)
    (hQ : ∀ c a w, Q (.panic c) (a.put oi.dst v) w → Q (.panic c) a w) {K : Act → World → Prop} {a : Act} {w : World}
    (hy : YieldsS P ops S oi v a) (h : wpOpIn F n P ops Q j K (a.put oi.dst v) w) :
    wpOpIn F n P ops Q j (fun a' w' => YieldsS P ops S oi v a' ∧ K (a'.put oi.dst v) w') a w := by
  obtain ⟨h1, h2, h3⟩ := Oper.apart_spec hap
  have keep : ∀ (a : Act), YieldsS P ops S oi v a → ∀ u, YieldsS P ops S oi v (a.put oj.dst u) := fun a hy u =>
    hy.of_same (execOp_put oi hsi a oj.dst u h3) (wanted_put oi a oj.dst u h3) (fun w => about_put oi w a oj.dst u h3)
  have keepD : ∀ d, YieldsS P ops S oi v { a with defers := d :: a.defers } := fun d => hy.of_same rfl rfl (fun _ => rfl)
  unfold wpOpIn at *
  simp only [hj] at *
  rw [wanted_put oj a oi.dst v h1, about_put oj w a oi.dst v h1] at h
  split
  · rename_i hw
    simp only [hw, if_true] at h
    unfold Oper.wpIn at *
    rw [about_put oj w a oi.dst v h1] at h
    refine ⟨h.1, ?_⟩
    have h := h.2
    rw [hro, Oper.semAt_none, execOp_put oj hsj a oi.dst v h1] at h
    rw [hro, Oper.semAt_none]
    generalize (execOp a.eval oj).run P w = r at *
    cases r with
    | ok x w' =>
      cases x <;> simp only [Oper.uponIn] at h ⊢
      case value u => exact ⟨keep a hy u, by rw [← Act.put_comm a v u h2]; exact h⟩
      case skip => exact ⟨keep a hy _, by rw [← Act.put_comm a v undef h2]; exact h⟩
      case defer d =>
        refine ⟨keep _ (keepD d) _, ?_⟩
        rw [← Act.put_comm _ v undef h2, ← Act.put_defers]
        exact h
      case enter f args =>
        refine ⟨h.1, CallsIn.mono h.2 fun e w'' he => ?_⟩
        cases e with
        | returned u => exact ⟨keep a hy u, by rw [← Act.put_comm a v u h2]; exact he⟩
        | panicked c => exact hQ _ _ _ he
        | outgrown => exact he
      case row row args => exact ⟨h.1, RowsIn.mono h.2 fun u w'' he => ⟨keep a hy u, by rw [← Act.put_comm a v u h2]; exact he⟩⟩
      case round l f tmps assign body =>
        refine ⟨h.1, RoundIn.mono h.2 fun e w'' he => ?_⟩
        cases e with
        | returned u => exact ⟨keep a hy u, by rw [← Act.put_comm a v u h2]; exact he⟩
        | panicked c => exact hQ _ _ _ he
        | outgrown => exact he
    | halt x w' =>
      cases x <;> simp only [Oper.uponIn] at h ⊢
      case panic u => exact hQ _ _ _ h
  · rename_i hw
    simp only [hw] at h
    exact ⟨h.1, keep a hy _, by rw [← Act.put_comm a v undef h2]; exact h.2⟩

/-- wpAnyIn, with S behind each operation that is not late. -/
def wpAnyS (F : Fence) (n : Nat) (P : Program) (md : Region.Mode) (ops : Array Oper) (Q : Exit → Act → World → Prop) (S : World → Prop) (late : List Nat) : Nat → Array Bool → Act → World → Prop
  | 0, listed, a, w => Region.ready md ops listed = [] ∧ Q .normal a w
  | fuel + 1, listed, a, w =>
    (Region.ready md ops listed = [] → Q .normal a w) ∧
    ∀ i ∈ Region.ready md ops listed, wpOpIn F n P ops Q i (fun a' w' => (late.contains i = false → S w') ∧ wpAnyS F n P md ops Q S late fuel (listed.setIfInBounds i true) a' w') a w

theorem wpAnyIn_of_S : ∀ (fuel : Nat) (listed : Array Bool) (a : Act) (w : World), wpAnyS F n P md ops Q S late fuel listed a w → wpAnyIn F n P md ops Q fuel listed a w
  | 0, _, _, _, h => h
  | fuel + 1, _, _, _, h => ⟨h.1, fun i hi => wpOpIn_mono (fun a w h2 => wpAnyIn_of_S fuel _ a w h2.2) (h.2 i hi)⟩

/-- Does an operation wait for another one, by itself or through others? -/
def reach (md : Region.Mode) (ops : Array Oper) (i : Nat) : Nat → Nat → Bool
  | 0, _ => false
  | fuel + 1, k => match ops[k]? with
    | none => false
    | some o => o.after.any fun e => Region.binds md e && (e.on == i || reach md ops i fuel e.on)
/-- All late operations wait for this one. -/
def heldB (md : Region.Mode) (ops : Array Oper) (late : List Nat) (i : Nat) : Bool := late.all fun k => k == i || reach md ops i ops.size k
/-- What is listed has listed ahead of it what it waits for. -/
def Closed (md : Region.Mode) (ops : Array Oper) (listed : Array Bool) : Prop := ∀ j o, ops[j]? = some o → listed.getD j false = true → ∀ e ∈ o.after, Region.binds md e = true → listed.getD e.on false = true
def closedB (md : Region.Mode) (ops : Array Oper) (listed : Array Bool) : Bool := (List.range ops.size).all fun j => !listed.getD j false || match ops[j]? with
  | none => true
  | some o => o.after.all fun e => !Region.binds md e || listed.getD e.on false
theorem closed_of {listed : Array Bool} (h : closedB md ops listed = true) : Closed md ops listed := by
  intro j o ho hj e he hb
  have hlt := (Array.getElem?_eq_some_iff.1 ho).1
  have h1 := List.all_eq_true.1 h j (by simpa using hlt)
  rw [hj, ho] at h1
  simp only [Bool.not_true, Bool.false_or] at h1
  have h2 := Array.all_eq_true_iff_forall_mem.1 h1 e he
  rw [hb] at h2
  simpa using h2
theorem Closed.set {listed : Array Bool} {j : Nat} (h : Closed md ops listed) (hj : j ∈ Region.ready md ops listed) : Closed md ops (listed.setIfInBounds j true) := by
  intro k o ho hk e he hb
  obtain ⟨_, oj, hoj, hall⟩ := mem_ready.1 hj
  by_cases hjk : j = k
  · subst hjk
    rw [ho] at hoj
    obtain rfl := Option.some.inj hoj
    exact getD_set_true (hall e he hb)
  · rw [getD_set_ne false hjk] at hk
    exact getD_set_true (h k o ho hk e he hb)
theorem Closed.reach {listed : Array Bool} (h : Closed md ops listed) {i : Nat} : ∀ (fuel k : Nat) (o : Oper), ops[k]? = some o → (∀ e ∈ o.after, Region.binds md e = true → listed.getD e.on false = true) → reach md ops i fuel k = true → listed.getD i false = true
  | 0, _, _, _, _, hr => by simp [Go.Proofs.YtkdidefghbeabaaGreat.reach] at hr
  | fuel + 1, k, o, ho, hall, hr => by
    unfold Go.Proofs.YtkdidefghbeabaaGreat.reach at hr
    simp only [ho, Array.any_eq_true', Bool.and_eq_true, Bool.or_eq_true, beq_iff_eq] at hr
    obtain ⟨e, he, hb, hon⟩ := hr
    have hl := hall e he hb
    rcases hon with rfl | hon
    · exact hl
    · cases fuel with
      | zero => simp [Go.Proofs.YtkdidefghbeabaaGreat.reach] at hon
      | succ f =>
        cases ho2 : ops[e.on]? with
        | none => unfold Go.Proofs.YtkdidefghbeabaaGreat.reach at hon; simp [ho2] at hon
        | some o2 => exact Closed.reach h (f + 1) e.on o2 ho2 (h e.on o2 ho2 hl) hon

end

/-- A postcondition that lets no panic through. -/
def NQ (Q : Exit → Act → World → Prop) : Exit → Act → World → Prop := fun x a w => x = .normal ∧ Q .normal a w
structure WA (P : Program) (ops : Array Oper) (Q : Exit → Act → World → Prop) (S : World → Prop) (late : List Nat) (fuel : Nat) (listed : List Bool) (l : List Value) (d : List Deferred) (w : World) : Prop where
  out : wpAnyS (Fr none) 0 P .any ops (NQ Q) S late fuel listed.toArray (St l d) w
/-- .. behind one operation. -/
def KA (P : Program) (ops : Array Oper) (Q : Exit → Act → World → Prop) (S : World → Prop) (late : List Nat) (i : Nat) (fuel : Nat) (listed : List Bool) : Exit → Act → World → Prop :=
  fun x a w => x = .normal ∧ (late.contains i = false → S w) ∧ wpAnyS (Fr none) 0 P .any ops (NQ Q) S late fuel listed.toArray a w

section
variable {P : Program} {Q : Exit → Act → World → Prop} {S : World → Prop} {late : List Nat} {l l' : List Value} {d : List Deferred} {w w0 : World} {M : List Nat} {Fs : List Frag} {fuel : Nat} {listed listed' : List Bool}
variable {ops : Array Oper} {os : List Oper} {dst : Option Tmp} {ty : TypeId} {pos : String} {af : Array Edge} {v : Value}

theorem wpIn_noPanic {F : Fence} {n : Nat} {o : Oper} {a : Act} {w : World} {N : Act → World → Prop} {Q : Exit → Act → World → Prop} (hh : o.wpIn F n P a w (fun a w => Exit.normal = .normal ∧ N a w) (fun x a w => x = .normal ∧ N a w)) : o.wpIn F n P a w N Q := by
  unfold Oper.wpIn at *
  refine ⟨hh.1, ?_⟩
  have hh := hh.2
  generalize (o.semAt F.round a.eval).run P w = r at *
  cases r with
  | ok x w' =>
    cases x <;> simp only [Oper.uponIn] at hh ⊢ <;>
      first
        | exact hh.2
        | exact hh
        | exact ⟨hh.1, CallsIn.mono hh.2 (fun e w'' he => by cases e <;> first | exact he.2 | exact absurd he.1 (by simp) | (obtain ⟨_, _, h, _⟩ := he; cases h))⟩
        | exact ⟨hh.1, RowsIn.mono hh.2 (fun _ _ he => he.2)⟩
        | exact ⟨hh.1, RoundIn.mono hh.2 (fun e w'' he => by cases e <;> first | exact he.2 | exact absurd he.1 (by simp) | (obtain ⟨_, _, h, _⟩ := he; cases h))⟩
  | halt x w' => cases x <;> simp only [Oper.uponIn] at hh ⊢ <;> first | exact hh | exact absurd hh.1 (by simp)

theorem WC.drawn {id : Nat} (S : World → Prop) (late : List Nat) (hg : Goes w0 M Fs w) (h : ∀ w', Goes w0 M Fs w' → WA P os.toArray Q S late os.length (List.replicate os.length false) l d w') (hm : P.follows .mixedOrders = true := by kernel_rfl) :
    WC P none (.region id os.toArray true) Q l d w := by
  refine ⟨Go.wpIn_mono (Q := NQ Q) (wpIn_region_any hm (wpAnyIn_of_S (S := S) (late := late) _ _ _ _ ?_)) (fun e a w q => by cases q.1; exact q.2)⟩
  have := (h _ hg.drew).out
  simpa using this

theorem WA.nil (h : Q .normal (St l d) w) (hr : Region.ready .any ops listed.toArray = [] := by kernel_rfl) : WA P ops Q S late fuel listed l d w := by
  refine ⟨?_⟩
  cases fuel with
  | zero => exact ⟨hr, rfl, h⟩
  | succ f => exact ⟨fun _ => ⟨rfl, h⟩, by rw [hr]; simp⟩
theorem WA.frame (h : WA P ops Q S late fuel listed l' d w) (hl : l = l' := by first | (simp only [ev, gt, put, List.set_cons_succ, List.set_cons_zero, Nat.zero_add, Nat.add_zero, Nat.mul_one, Nat.reduceAdd, Nat.reduceMul, Int.toNat_natCast, Int.reduceToNat, List.map_cons, List.map_nil, List.cons_append, List.nil_append]; exact rfl) | simp only [ev, gt, put, List.set_cons_succ, List.set_cons_zero, Nat.zero_add, Nat.add_zero, Nat.mul_one, Nat.reduceAdd, Nat.reduceMul, Int.toNat_natCast, Int.reduceToNat, List.map_cons, List.map_nil, List.cons_append, List.nil_append]) : WA P ops Q S late fuel listed l d w := hl ▸ h

theorem nq_put {Q : Exit → Act → World → Prop} {dst : Option Tmp} {v : Value} : ∀ c a w, NQ Q (.panic c) (a.put dst v) w → NQ Q (.panic c) a w := fun c a w h => absurd h.1 (by simp)

end

section
variable {F : Fence} {n : Nat} {P : Program} {ops : Array Oper} {Q : Exit → Act → World → Prop} {md : Region.Mode} {S : World → Prop} {late : List Nat}
/-- An operation that looks at no world may be taken first whatever is late. -/
theorem wpAnyS_first0 {i : Nat} {oi : Oper} {v : Value} (hro : F.round = none) (hi : ops[i]? = some oi) (hsel : ∀ (j : Nat) (o : Oper) cs b, ops[j]? = some o → o.op ≠ .select cs b)
    (hQ : ∀ c a w, Q (.panic c) (a.put oi.dst v) w → Q (.panic c) a w) :
    ∀ (fuel : Nat) (listed : Array Bool) (a : Act) (w : World), (late.contains i = false → S w) →
      (∀ j oj, ops[j]? = some oj → j ≠ i → listed.getD j true = false → (∀ e ∈ oj.after, Region.binds md e = true → e.on ≠ i) → oi.apart ops oj = true) →
      i ∈ Region.ready md ops listed → YieldsS P ops (fun _ => True) oi v a → late.contains i = true ∨ S w ∧ (∀ j, j ≠ i → late.contains j = true → listed.getD j true = true ∨ ∃ o, ops[j]? = some o ∧ ∃ e ∈ o.after, Region.binds md e = true ∧ e.on = i) →
      wpAnyS F n P md ops Q S late fuel (listed.setIfInBounds i true) (a.put oi.dst v) w → wpAnyS F n P md ops Q S late (fuel + 1) listed a w := by
  intro fuel
  induction fuel with
  | zero =>
    intro listed a w hS _ hr hy _ H
    refine ⟨fun h => (by rw [h] at hr; cases hr), fun j hj => ?_⟩
    by_cases hji : j = i
    · subst hji; exact hy.wpOpIn hro hi trivial ⟨hS, H⟩
    · have := ready_mono hj hji
      rw [H.1] at this
      cases this
  | succ fuel ih =>
    intro listed a w hS hfree hr hy hL H
    refine ⟨fun h => (by rw [h] at hr; cases hr), fun j hj => ?_⟩
    by_cases hji : j = i
    · subst hji; exact hy.wpOpIn hro hi trivial ⟨hS, H⟩
    · have h1 := H.2 j (ready_mono hj hji)
      obtain ⟨hjun, oj, hoj, hall⟩ := mem_ready.1 hj
      have hnot : ∀ e ∈ oj.after, Region.binds md e = true → e.on ≠ i := fun e he hb heq => by
        have h1 := hall e he hb
        have h0 := (mem_ready.1 hr).1
        rw [heq] at h1
        rcases Nat.lt_or_ge i listed.size with h' | h'
        · simp [h'] at h0 h1; rw [h0] at h1; cases h1
        · simp [Array.getElem?_eq_none h'] at h1
      have hnl : late.contains i = true ∨ late.contains j = false := by
        rcases hL with h | ⟨_, hL⟩
        · exact .inl h
        · cases hc : late.contains j with
          | false => exact .inr rfl
          | true =>
            rcases hL j hji hc with h | ⟨o, ho, e, he, hb, hon⟩
            · rw [h] at hjun; cases hjun
            · rw [hoj] at ho
              obtain rfl := Option.some.inj ho
              exact absurd hon (hnot e he hb)
      have h2 := wpOpIn_putS hro hoj (hfree j oj hoj hji hjun hnot) (fun cs b => hsel i oi cs b hi) (fun cs b => hsel j oj cs b hoj) hQ hy h1
      have hfree' : ∀ k ok, ops[k]? = some ok → k ≠ i → (listed.setIfInBounds j true).getD k true = false →
          (∀ e ∈ ok.after, Region.binds md e = true → e.on ≠ i) → oi.apart ops ok = true := fun k ok hk hki hun hno => by
        refine hfree k ok hk hki ?_ hno
        by_cases hjk : j = k
        · subst hjk; exact hjun
        · rw [getD_set_ne true hjk] at hun; exact hun
      refine wpOpIn_mono (fun a' w' h3 => ⟨h3.2.1, ih (listed.setIfInBounds j true) a' w' (fun hc => ?_) hfree' (ready_mono hr (Ne.symm hji)) h3.1 ?_ ?_⟩) h2
      · rcases hnl with h | h
        · rw [h] at hc; cases hc
        · exact h3.2.1 h
      · rcases hL with h | ⟨_, hL⟩
        · exact .inl h
        · rcases hnl with h | h
          · exact .inl h
          · refine .inr ⟨h3.2.1 h, fun k hk hc => ?_⟩
            rcases hL k hk hc with h | h
            · refine .inl ?_
              by_cases hjk : j = k
              · subst hjk; simp at hjun; simp [hjun] at h
              · rw [getD_set_ne true hjk]; exact h
            · exact .inr h
      · rw [Array.setIfInBounds_comm _ _ hji]
        exact h3.2.2
end

section
variable {P : Program} {Q : Exit → Act → World → Prop} {S : World → Prop} {late : List Nat} {l l' : List Value} {d : List Deferred} {w w0 : World} {M : List Nat} {Fs : List Frag} {fuel : Nat} {listed listed' : List Bool}
variable {ops : Array Oper} {os : List Oper} {dst : Option Tmp} {ty : TypeId} {pos : String} {af : Array Edge} {v : Value}
/-- A late one that looks at no world. -/
theorem WA.passL (i : Nat) {op : Op} (h : WA P ops Q S late fuel (listed.set i true) l' d w) (ho : ops[i]? = some ⟨dst, op, ty, pos, af, none⟩ := by exact rfl) (hx : ∀ w, Runs P l op ty w v := by intro w; first | ((with_reducible apply is_move); exact x_move) | ((with_reducible apply is_assign); exact x_assign) | ((with_reducible apply is_load); first | exact x_load | exact x_loadA) | ((with_reducible apply is_bin); first | exact x_cmp | exact x_arith | exact x_eqBool | exact x_eqStr | exact x_eqPtrNil | exact x_eqMapNil | exact x_eqSliceNil | exact x_eqAgg | exact x_quo | exact x_rem | exact x_addStr | exact x_eqFuncNil) | ((with_reducible apply is_fieldAddr); exact x_fieldAddr) | ((with_reducible apply is_indexAddr); first | exact x_indexAddr | exact x_indexAddrArr) | ((with_reducible apply is_field); first | exact x_field1 | exact x_fieldA) | ((with_reducible apply is_un); first | exact x_not | exact x_neg) | ((with_reducible apply is_pick); exact x_pick) | ((with_reducible apply is_builtin); first | exact x_lenSlice | exact x_lenString | exact x_min | exact x_max) | ((with_reducible apply is_extract); exact x_extract) | ((with_reducible apply is_nilCheck); exact x_nilCheck) | ((with_reducible apply is_makeFunc); exact x_makeFunc) | ((with_reducible apply is_build); exact x_build) | ((with_reducible apply is_convert); exact x_convInt) | ((with_reducible apply is_index); first | exact x_indexArr | exact x_indexStrL) | ((with_reducible apply is_slice); first | exact x_sliceLH | exact x_sliceH | exact x_sliceL | exact x_sliceHM)) (hl : put l dst v = l' := by first | (simp only [ev, gt, put, List.set_cons_succ, List.set_cons_zero, Nat.zero_add, Nat.add_zero, Nat.mul_one, Nat.reduceAdd, Nat.reduceMul, Int.toNat_natCast, Int.reduceToNat, List.map_cons, List.map_nil, List.cons_append, List.nil_append]; exact rfl) | simp only [ev, gt, put, List.set_cons_succ, List.set_cons_zero, Nat.zero_add, Nat.add_zero, Nat.mul_one, Nat.reduceAdd, Nat.reduceMul, Int.toNat_natCast, Int.reduceToNat, List.map_cons, List.map_nil, List.cons_append, List.nil_append])
    (hb : ∀ w, Oper.about P w (St l d).eval ⟨dst, op, ty, pos, af, none⟩ = none := by intro w; exact rfl)
    (hs : Region.noSelect ops = true := by kernel_rfl) (hf : Region.free .any ops listed.toArray i = true := by kernel_rfl) (hr : (Region.ready .any ops listed.toArray).contains i = true := by kernel_rfl) (hla : late.contains i = true := by kernel_rfl) :
    WA P ops Q S late (fuel + 1) listed l d w := by
  refine ⟨wpAnyS_first0 rfl ho (Region.noSelect_spec hs) nq_put fuel _ _ _ (fun h => by rw [hla] at h; cases h) (Region.free_spec ho hf) (by simpa using hr) (v := v) ⟨.inl ⟨rfl, fun w _ => (hx w).out d dst pos af⟩, hb⟩ (.inl hla) ?_⟩
  have := h.out
  rw [← hl, ← St_put] at this
  simpa using this
/-- The only one that is ready. -/
theorem WA.only (i : Nat) {op : Op} (h : WO P none ops (KA P ops Q S late i fuel (listed.set i true)) [⟨dst, op, ty, pos, af, none⟩] l d w) (ho : ops[i]? = some ⟨dst, op, ty, pos, af, none⟩ := by exact rfl) (hr : Region.ready .any ops listed.toArray = [i] := by kernel_rfl) :
    WA P ops Q S late (fuel + 1) listed l d w := by
  refine ⟨And.intro (fun h0 => by rw [hr] at h0; cases h0) ?_⟩
  intro j hj
  rw [hr] at hj
  obtain rfl : j = i := by simpa using hj
  have h1 := h.out
  unfold wpOpIn
  rw [ho]
  simp only [wpListIn, Region.wanted, if_true] at h1 ⊢
  have h2 := wpIn_noPanic (N := fun a w => (late.contains j = false → S w) ∧ wpAnyS (Fr none) 0 P .any ops (NQ Q) S late fuel (listed.set j true).toArray a w) (Q := NQ Q) h1
  simpa using h2
theorem WO.nilA {i : Nat} (hS : S w) (h : WA P ops Q S late fuel listed l d w) : WO P none ops (KA P ops Q S late i fuel listed) [] l d w := ⟨⟨rfl, fun _ => hS, h.out⟩⟩
theorem WO.nilL {i : Nat} (h : WA P ops Q S late fuel listed l d w) (hl : late.contains i = true := by exact rfl) : WO P none ops (KA P ops Q S late i fuel listed) [] l d w := ⟨⟨rfl, fun (h0 : late.contains i = false) => (by rw [hl] at h0; cases h0), h.out⟩⟩
theorem heap_cell {b k : Nat} {c : List Value} {t : TypeId} {z : Nat × Nat} (h : w.heap[b]? = some (.cells c.toArray t z)) (hv : c[k]? = some v) : w.cell? ⟨b, k, none⟩ = some v := by simp [World.cell?, h, hv]
theorem heap_cells {b k : Nat} {c cs : List Value} {t : TypeId} {z : Nat × Nat} (h : w.heap[b]? = some (.cells c.toArray t z)) (hv : (c.drop k).take cs.length = cs) : Cells w ⟨b, k, none⟩ cs := by
  intro j v hj
  rw [add_lit]
  refine heap_cell h ?_
  have h2 := (List.getElem?_eq_some_iff.1 hj).1
  rw [← hv, List.getElem?_take, if_pos h2, List.getElem?_drop] at hj
  exact hj
end
end Go.Proofs.YtkdidefghbeabaaGreat
