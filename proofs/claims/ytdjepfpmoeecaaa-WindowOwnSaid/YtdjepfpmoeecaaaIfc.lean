/- Interfaces: what is put into one, taken out of one, called through one; quotients of negatives; rows that a fragment bears; slices that are cut. -/
import Derived.Test.YtdjepfpmoeecaaaDrawn
import Derived.Test.YtdjepfpmoeecaaaGrow
import Derived.MapKept
namespace Go.Proofs.Ytdjepfpmoeecaaa
open Go Go.RowKit
set_option linter.unusedSimpArgs false
set_option linter.unusedVariables false

/-- Of a method of a type: its function; whether it takes the pointer itself. -/
class Meth (P : Program) (t : TypeId) (name : String) (f : outParam FuncId) (ptr : outParam Bool) : Prop where
  out : ((P.info? t).bind fun i => (i.methods.find? (·.name == name)).map fun m => (m.path.isEmpty, m.func)) = some (true, some (f, ptr))

section
variable {P : Program} {r : Option Nat} {Q : Exit → Act → World → Prop} {l l' : List Value} {d : List Deferred} {w w' w0 : World} {M : List Nat} {Fs Fs' : List Frag}
variable {ops : Array Oper} {os : List Oper} {dst : Option Tmp} {ty : TypeId} {pos : String} {af : Array Edge} {v : Value}
variable {t xt e : TypeId} {x : Operand} {name : String} {f : FuncId} {a : Addr}

theorem meth_get {ptr : Bool} (h : Meth P t name f ptr) : ∃ i m, P.info? t = some i ∧ i.methods.find? (·.name == name) = some m ∧ m.path = #[] ∧ m.func = some (f, ptr) := by
  have h1 := h.out
  cases hi : P.info? t with
  | none => rw [hi] at h1; cases h1
  | some i =>
    rw [hi] at h1
    simp only [Option.bind_some] at h1
    cases hm : i.methods.find? (·.name == name) with
    | none => rw [hm] at h1; cases h1
    | some m =>
      rw [hm] at h1
      simp only [Option.map_some, Option.some.injEq, Prod.mk.injEq, Array.isEmpty_iff] at h1
      exact ⟨i, m, rfl, hm, h1.1, h1.2⟩

theorem method_ptr {n : Nat} [h : Meth P t name f true] [hu : Und P t (.pointer e)] : (method (n + 1) t (.pointer (some a)) name).run P w = .ok (f, .pointer (some a)) w := by
  obtain ⟨i, m, h1, h2, h3, h4⟩ := meth_get h
  unfold method
  simp [typeInfo, h1, h2, h3, h4, follow, receiverAt, run_underlying hu.out, Place.get]
theorem wrapChk (t : TypeId) (a : Addr) (s1 s2 : String) : Builtin.ssaWrapNilChk_ #[t] t #[.pointer (some a), strVal s1, strVal s2] = pure (.pointer (some a)) := rfl
theorem method_val {n : Nat} [h : Meth P t name f false] [hu : Und P t (.pointer e)] [hs : Scal P e] (hc : w.cell? a = some v) : (method (n + 1) t (.pointer (some a)) name).run P w = .ok (f, v) w := by
  obtain ⟨i, m, h1, h2, h3, h4⟩ := meth_get h
  unfold method
  simp [typeInfo, h1, h2, h3, h4, follow, receiverAt, run_underlying hu.out, Place.get, wrapChk, asAddr, loadVar, hs.run, hc]
theorem fuel_succ (P : Program) : ∃ n, P.types.size + Made.depth = n + 1 := ⟨P.types.size + 99, rfl⟩

/-- A method called through an interface that holds a pointer: the pointer's method. -/
theorem op_invokeP {fn : Func} {as : List Operand} {vs : List Value} {ts : Array TypeId} {T : TypeId} {R : Ending → World → Prop} [H : Fun P f fn] [h : Meth P t name f true] [hu : Und P t (.pointer e)] (hc : Calls P f (.pointer (some a) :: vs).toArray w R)
    (hR : ∀ e w'', R e w'' → ∃ v, e = .returned v ∧ WO P r ops Q os (put l dst v) d w'') (hx : ev l x = .iface t (.pointer (some a)) := by first | (simp only [ev, gt, put, List.set_cons_succ, List.set_cons_zero, Nat.zero_add, Nat.add_zero, Nat.mul_one, Nat.reduceAdd, Nat.reduceMul, Int.toNat_natCast, Int.reduceToNat, List.map_cons, List.map_nil, List.cons_append, List.nil_append]; exact rfl) | simp only [ev, gt, put, List.set_cons_succ, List.set_cons_zero, Nat.zero_add, Nat.add_zero, Nat.mul_one, Nat.reduceAdd, Nat.reduceMul, Int.toNat_natCast, Int.reduceToNat, List.map_cons, List.map_nil, List.cons_append, List.nil_append]) (ha : as.map (ev l) = vs := by first | (simp only [ev, gt, put, List.set_cons_succ, List.set_cons_zero, Nat.zero_add, Nat.add_zero, Nat.mul_one, Nat.reduceAdd, Nat.reduceMul, Int.toNat_natCast, Int.reduceToNat, List.map_cons, List.map_nil, List.cons_append, List.nil_append]; exact rfl) | simp only [ev, gt, put, List.set_cons_succ, List.set_cons_zero, Nat.zero_add, Nat.add_zero, Nat.mul_one, Nat.reduceAdd, Nat.reduceMul, Int.toNat_natCast, Int.reduceToNat, List.map_cons, List.map_nil, List.cons_append, List.nil_append]) :
    WO P r ops Q (⟨dst, .call { callee := .invoke x name, args := as.toArray, argTypes := ts }, T, pos, af, none⟩ :: os) l d w := by
  refine WO.enter (by simp) ?_ hc hR
  obtain ⟨n, hn⟩ := fuel_succ P
  have : (St l d).eval = ev l := funext (St_eval l d)
  have e1 : (callFunc f (#[.pointer (some a)] ++ vs.toArray)).run P w = .ok (.enter f (.pointer (some a) :: vs).toArray) w := by
    simp only [callFunc, Sem.run_bind, run_program, Result.andThen_ok, H.out, H.named, H.body, Bool.false_eq_true, if_false]; simp
  have e2 := method_ptr (P := P) (w := w) (a := a) (n := n) (t := t) (name := name) (f := f) (e := e)
  simp [execOp, resolve, this, hx, invoke, callMethod, hn, e2]
  rw [ha, show as.length = vs.length from by rw [← ha]; simp, List.take_length]
  simpa using e1
/-- .. the method of what it points to. -/
theorem op_invokeV {fn : Func} {as : List Operand} {vs : List Value} {ts : Array TypeId} {T : TypeId} {R : Ending → World → Prop} [H : Fun P f fn] [h : Meth P t name f false] [hu : Und P t (.pointer e)] [hs : Scal P e] (hv : w.cell? a = some v) (hc : Calls P f (v :: vs).toArray w R)
    (hR : ∀ e w'', R e w'' → ∃ v, e = .returned v ∧ WO P r ops Q os (put l dst v) d w'') (hx : ev l x = .iface t (.pointer (some a)) := by first | (simp only [ev, gt, put, List.set_cons_succ, List.set_cons_zero, Nat.zero_add, Nat.add_zero, Nat.mul_one, Nat.reduceAdd, Nat.reduceMul, Int.toNat_natCast, Int.reduceToNat, List.map_cons, List.map_nil, List.cons_append, List.nil_append]; exact rfl) | simp only [ev, gt, put, List.set_cons_succ, List.set_cons_zero, Nat.zero_add, Nat.add_zero, Nat.mul_one, Nat.reduceAdd, Nat.reduceMul, Int.toNat_natCast, Int.reduceToNat, List.map_cons, List.map_nil, List.cons_append, List.nil_append]) (ha : as.map (ev l) = vs := by first | (simp only [ev, gt, put, List.set_cons_succ, List.set_cons_zero, Nat.zero_add, Nat.add_zero, Nat.mul_one, Nat.reduceAdd, Nat.reduceMul, Int.toNat_natCast, Int.reduceToNat, List.map_cons, List.map_nil, List.cons_append, List.nil_append]; exact rfl) | simp only [ev, gt, put, List.set_cons_succ, List.set_cons_zero, Nat.zero_add, Nat.add_zero, Nat.mul_one, Nat.reduceAdd, Nat.reduceMul, Int.toNat_natCast, Int.reduceToNat, List.map_cons, List.map_nil, List.cons_append, List.nil_append]) :
    WO P r ops Q (⟨dst, .call { callee := .invoke x name, args := as.toArray, argTypes := ts }, T, pos, af, none⟩ :: os) l d w := by
  refine WO.enter (by simp) ?_ hc hR
  obtain ⟨n, hn⟩ := fuel_succ P
  have : (St l d).eval = ev l := funext (St_eval l d)
  have e1 : (callFunc f (#[v] ++ vs.toArray)).run P w = .ok (.enter f (v :: vs).toArray) w := by
    simp only [callFunc, Sem.run_bind, run_program, Result.andThen_ok, H.out, H.named, H.body, Bool.false_eq_true, if_false]; simp
  have e2 := method_val (P := P) (n := n) (t := t) (name := name) (f := f) (e := e) hv
  simp [execOp, resolve, this, hx, invoke, callMethod, hn, e2]
  rw [ha, show as.length = vs.length from by rw [← ha]; simp, List.take_length]
  simpa using e1

class Conc (P : Program) (t : TypeId) : Prop where
  out : P.concrete t = true
theorem x_makeIface [h : Conc P t] (hx : ev l x = v := by first | (simp only [ev, gt, put, List.set_cons_succ, List.set_cons_zero, Nat.zero_add, Nat.add_zero, Nat.mul_one, Nat.reduceAdd, Nat.reduceMul, Int.toNat_natCast, Int.reduceToNat, List.map_cons, List.map_nil, List.cons_append, List.nil_append]; exact rfl) | simp only [ev, gt, put, List.set_cons_succ, List.set_cons_zero, Nat.zero_add, Nat.add_zero, Nat.mul_one, Nat.reduceAdd, Nat.reduceMul, Int.toNat_natCast, Int.reduceToNat, List.map_cons, List.map_nil, List.cons_append, List.nil_append]) : Runs P l (.makeInterface t x) ty w (.iface t v) :=
  ⟨by simp, fun d dst pos af => by simp [execOp, St_eval, hx, run_makeInterface w t v h.out]⟩
theorem op_mkIface [h : Conc P t] (hk : WO P r ops Q os (put l dst (.iface t v)) d w) (hx : ev l x = v := by first | (simp only [ev, gt, put, List.set_cons_succ, List.set_cons_zero, Nat.zero_add, Nat.add_zero, Nat.mul_one, Nat.reduceAdd, Nat.reduceMul, Int.toNat_natCast, Int.reduceToNat, List.map_cons, List.map_nil, List.cons_append, List.nil_append]; exact rfl) | simp only [ev, gt, put, List.set_cons_succ, List.set_cons_zero, Nat.zero_add, Nat.add_zero, Nat.mul_one, Nat.reduceAdd, Nat.reduceMul, Int.toNat_natCast, Int.reduceToNat, List.map_cons, List.map_nil, List.cons_append, List.nil_append]) : WO P r ops Q (⟨dst, .makeInterface t x, ty, pos, af, none⟩ :: os) l d w :=
  WO.x hk (x_makeIface hx) rfl
theorem x_assertInt {k : IntKind} [hu : Und P t (.int k)] (hx : ev l x = .iface t v := by first | (simp only [ev, gt, put, List.set_cons_succ, List.set_cons_zero, Nat.zero_add, Nat.add_zero, Nat.mul_one, Nat.reduceAdd, Nat.reduceMul, Int.toNat_natCast, Int.reduceToNat, List.map_cons, List.map_nil, List.cons_append, List.nil_append]; exact rfl) | simp only [ev, gt, put, List.set_cons_succ, List.set_cons_zero, Nat.zero_add, Nat.add_zero, Nat.mul_one, Nat.reduceAdd, Nat.reduceMul, Int.toNat_natCast, Int.reduceToNat, List.map_cons, List.map_nil, List.cons_append, List.nil_append]) : Runs P l (.typeAssert x xt t true) ty w (.tuple #[v, .bool true]) := by
  refine ⟨by simp, fun d dst pos af => ?_⟩
  simp [execOp, St_eval, hx, Instr.typeAssert, run_underlying hu.out]
/-- Quotients toward zero. -/
theorem x_quoT {t' : TypeId} {x y : Operand} {a b : Int} {ki : IntKind} [Und P t (.int ki)] (hx : ev l x = .int .i64 a := by first | (simp only [ev, gt, put, List.set_cons_succ, List.set_cons_zero, Nat.zero_add, Nat.add_zero, Nat.mul_one, Nat.reduceAdd, Nat.reduceMul, Int.toNat_natCast, Int.reduceToNat, List.map_cons, List.map_nil, List.cons_append, List.nil_append]; exact rfl) | simp only [ev, gt, put, List.set_cons_succ, List.set_cons_zero, Nat.zero_add, Nat.add_zero, Nat.mul_one, Nat.reduceAdd, Nat.reduceMul, Int.toNat_natCast, Int.reduceToNat, List.map_cons, List.map_nil, List.cons_append, List.nil_append]) (hy : ev l y = .int .i64 b := by first | (simp only [ev, gt, put, List.set_cons_succ, List.set_cons_zero, Nat.zero_add, Nat.add_zero, Nat.mul_one, Nat.reduceAdd, Nat.reduceMul, Int.toNat_natCast, Int.reduceToNat, List.map_cons, List.map_nil, List.cons_append, List.nil_append]; exact rfl) | simp only [ev, gt, put, List.set_cons_succ, List.set_cons_zero, Nat.zero_add, Nat.add_zero, Nat.mul_one, Nat.reduceAdd, Nat.reduceMul, Int.toNat_natCast, Int.reduceToNat, List.map_cons, List.map_nil, List.cons_append, List.nil_append]) (hb : b ≠ 0) (hr : -9223372036854775808 ≤ a.tdiv b ∧ a.tdiv b ≤ 9223372036854775807) :
    Runs P l (.binOp .quo t x y t') ty w (.int .i64 (a.tdiv b)) := by
  refine ⟨by simp, fun d dst pos af => ?_⟩
  simp [execOp, eqGuard, St_eval, hx, hy, binOp, Op.intDiv, hb, IntWalk.i64_in _ hr]

/-- The length of a map. -/
theorem x_lenMap {kt et T : TypeId} {b clock : Nat} {es : Array MapEntry} [H : Und P t (.map kt et)] (hb : w.heap[b]? = some (.map es clock)) (hx : ev l x = .map (some b) := by first | (simp only [ev, gt, put, List.set_cons_succ, List.set_cons_zero, Nat.zero_add, Nat.add_zero, Nat.mul_one, Nat.reduceAdd, Nat.reduceMul, Int.toNat_natCast, Int.reduceToNat, List.map_cons, List.map_nil, List.cons_append, List.nil_append]; exact rfl) | simp only [ev, gt, put, List.set_cons_succ, List.set_cons_zero, Nat.zero_add, Nat.add_zero, Nat.mul_one, Nat.reduceAdd, Nat.reduceMul, Int.toNat_natCast, Int.reduceToNat, List.map_cons, List.map_nil, List.cons_append, List.nil_append]) :
    Runs P l (.call { callee := .builtin .len, args := #[x], argTypes := #[t] }) T w (.int .i64 es.size) := by
  refine ⟨by simp, fun _ _ _ _ => ?_⟩
  have hg := MapKept.run_getObj_map (P := P) hb
  simp [execOp, resolve, invoke, builtin, Builtin.len_, St_eval, hx, run_underlying H.out, goInt, hg]
end

theorem Goes.two {w0 w : World} {M : List Nat} {f g : Frag} {Fs : List Frag} (hg : Goes w0 M (f :: g :: Fs) w) : Goes w0 M [f, g] w :=
  hg.sub (by simp only [List.flatten_cons, List.flatten_nil, List.append_nil, ← List.append_assoc]; exact List.sublist_append_left _ _)
theorem Cells.part {w : World} {b k j n : Nat} {cs c : List Value} (h : Cells w ⟨b, k, none⟩ cs) (hc : (cs.drop j).take n = c) : Cells w ⟨b, k + j, none⟩ c := by
  intro q v hq
  rw [← hc, List.getElem?_take] at hq
  split at hq
  · rw [List.getElem?_drop] at hq
    have := h (j + q) v hq
    rw [add_lit] at this ⊢
    rw [show k + j + q = k + (j + q) from by omega]
    exact this
  · cases hq

/-- Rows that a fragment bears, wherever it lies. -/
def Rd (f : Frag) (a : Option Addr) (cap sz : Nat) (rows : List (List Value)) : Prop := ∀ w : World, (∀ p ∈ f, w.heap[p.1]? = some p.2) → Sl w a cap sz rows
section
variable {w0 w : World} {M : List Nat} {Fs : List Frag} {f : Frag} {a : Option Addr} {cap sz : Nat} {rows : List (List Value)} {e : TypeId}
theorem Rd.sl (h : Rd f a cap sz rows) (hg : Goes w0 M (f :: Fs) w) : Sl w a cap sz rows := h w (fun p hp => hg.own p (by simp [hp]))
theorem Rd.part (h : Rd f a cap sz rows) (i m : Nat) (hi : i + m ≤ rows.length) : Rd f (moved a i sz cap) (cap - i) sz ((rows.drop i).take m) := fun w hw => (h w hw).part i m hi
theorem Rd.nil : Rd [] none 0 sz [] := fun w _ => ⟨Nat.le_refl _, by simp, fun _ => rfl, fun p hp => by cases hp⟩
theorem Own.rd {n : Nat} (h : Own e sz a n cap rows.flatten f) (hr : ∀ r ∈ rows, r.length = sz) (hn : rows.length = n) (hl : n ≤ 140737488351232) : Rd f a cap sz rows := fun w hw => by
  refine h.sl (w0 := w) (M := keys f) (Fs := []) (Owns.goes ⟨hw, ?_⟩) hr hn hl
  generalize rows.flatten = xs at h
  cases h <;> simp [keys]
end
end Go.Proofs.Ytdjepfpmoeecaaa
