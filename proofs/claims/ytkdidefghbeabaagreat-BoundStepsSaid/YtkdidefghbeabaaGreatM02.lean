/- One rule for each operation. -/
import Derived.Test.YtkdidefghbeabaaGreatM01
import Derived.Great.BuildSlice
namespace Go.Proofs.YtkdidefghbeabaaGreat
open Go Go.RowKit
set_option linter.unusedSimpArgs false
set_option linter.unusedVariables false

def gt : List Value → Nat → Value
  | [], _ => undef
  | v :: _, 0 => v
  | _ :: l, n + 1 => gt l n

def ev (l : List Value) : Operand → Value
  | .tmp t => gt l t
  | .const v => v
  | .global g => .pointer (some ⟨g, 0, none⟩)
  | .func f => .func (.func f) #[] #[]

theorem gt_eq (l : List Value) (t : Nat) : l[t]?.getD undef = gt l t := by
  induction l generalizing t with
  | nil => simp [gt]
  | cons v l ih =>
    cases t with
    | zero => simp [gt]
    | succ t => rw [gt, ← ih t]; simp

theorem St_eval (l : List Value) (d : List Deferred) (x : Operand) : (St l d).eval x = ev l x := by
  cases x <;> simp [Act.eval, ev, gt_eq]

/-! What is known of a program's types and functions: found by their numbers. -/
class Und (P : Program) (t : TypeId) (dd : outParam TypeDesc) : Prop where
  out : P.underlying t = some dd
class UndF (P : Program) (t : TypeId) : Prop where
  out : ∃ a b c, P.underlying t = some (.func a b c)
/-- Of a type: one cell. -/
class Scal (P : Program) (t : TypeId) : Prop where
  out : (match P.underlying t with | some (.struct _) | some (.array _ _) => false | some _ => true | none => false) = true
/-- Of a type: its zero value's cells. -/
class Zero (P : Program) (t : TypeId) (z : outParam (List Value)) : Prop where
  out : ((P.info? t).bind (·.zero)).map (fun v => v.cells.toList) = some z
class Size (P : Program) (t : TypeId) (n : outParam Nat) : Prop where
  out : (P.info? t).map (·.size) = some n
class Bytes (P : Program) (t : TypeId) (n : outParam Nat) : Prop where
  out : (P.info? t).map (·.bytes) = some n
class Aggr (P : Program) (t : TypeId) : Prop where
  out : (match P.underlying t with | some (.struct _) | some (.array _ _) => true | _ => false) = true
/-- Of a struct type: where a field lies, of what type. -/
class Fld (P : Program) (t : TypeId) (i : Nat) (off : outParam Nat) (e : outParam TypeId) : Prop where
  out : (match P.underlying t with | some (.struct fs) => (fs[i]?).map (fun f => (f.offset, f.type)) | _ => none) = some (off, e)
class Fun (P : Program) (f : FuncId) (fn : outParam Func) : Prop where
  out : P.funcs[f]? = some fn
  named : (fn.name == "runtime.NumGoroutine") = false
  body : fn.body.isNone = false

section
variable {P : Program} {w : World}

theorem Size.run {t : TypeId} {n : Nat} [H : Size P t n] : (sizeOf t).run P w = .ok n w := by
  have h := H.out
  cases hi : P.info? t with
  | none => simp [hi] at h
  | some i => simp [hi] at h; simp [sizeOf, typeInfo, hi, h]
theorem Zero.run {t : TypeId} {z : List Value} [H : Zero P t z] : ∃ v, (zeroValue t).run P w = .ok v w ∧ v.cells = z.toArray := by
  have h := H.out
  cases hi : P.info? t with
  | none => simp [hi] at h
  | some i =>
    simp [hi] at h
    obtain ⟨v, hv, hz⟩ := h
    exact ⟨v, by simp [zeroValue, typeInfo, hi, hv], by rw [← hz]⟩
theorem Scal.run {t : TypeId} [H : Scal P t] : (isAgg t).run P w = .ok false w := by
  have h := H.out
  cases hu : P.underlying t with
  | none => simp [hu] at h
  | some d => cases d <;> simp [hu] at h <;> simp [isAgg, run_underlying hu]
theorem Aggr.run {t : TypeId} [H : Aggr P t] : (isAgg t).run P w = .ok true w := by
  have h := H.out
  cases hu : P.underlying t with
  | none => simp [hu] at h
  | some d => cases d <;> simp [hu] at h <;> simp [isAgg, run_underlying hu]
end

section
variable {P : Program} {r : Option Nat} {Q : Exit → Act → World → Prop} {l l' : List Value} {d : List Deferred} {w w' w0 : World} {M : List Nat} {Fs Fs' : List Frag}
variable {ops : Array Oper} {os : List Oper} {dst : Option Tmp} {ty : TypeId} {pos : String} {af : Array Edge} {v : Value}

/-- What an operation that leaves the world alone comes to. -/
structure Runs (P : Program) (l : List Value) (op : Op) (ty : TypeId) (w : World) (v : Value) : Prop where
  nd : ∀ c, op ≠ .defer c
  out : ∀ d dst pos af, (execOp (St l d).eval ⟨dst, op, ty, pos, af, none⟩).run P w = .ok (.value v) w

theorem WO.x {op : Op} (h : WO P r ops Q os l' d w) (hx : Runs P l op ty w v := by first | ((with_reducible apply is_move); exact x_move) | ((with_reducible apply is_assign); exact x_assign) | ((with_reducible apply is_load); first | exact x_load | exact x_loadA) | ((with_reducible apply is_bin); first | exact x_cmp | exact x_arith | exact x_eqBool | exact x_eqStr | exact x_eqPtrNil | exact x_eqMapNil | exact x_eqSliceNil | exact x_eqAgg | exact x_quo | exact x_rem | exact x_addStr | exact x_eqFuncNil) | ((with_reducible apply is_fieldAddr); exact x_fieldAddr) | ((with_reducible apply is_indexAddr); first | exact x_indexAddr | exact x_indexAddrArr) | ((with_reducible apply is_field); first | exact x_field1 | exact x_fieldA) | ((with_reducible apply is_un); first | exact x_not | exact x_neg) | ((with_reducible apply is_pick); exact x_pick) | ((with_reducible apply is_builtin); first | exact x_lenSlice | exact x_lenString | exact x_min | exact x_max) | ((with_reducible apply is_extract); exact x_extract) | ((with_reducible apply is_nilCheck); exact x_nilCheck) | ((with_reducible apply is_makeFunc); exact x_makeFunc) | ((with_reducible apply is_build); exact x_build) | ((with_reducible apply is_convert); exact x_convInt) | ((with_reducible apply is_index); first | exact x_indexArr | exact x_indexStrL) | ((with_reducible apply is_slice); first | exact x_sliceLH | exact x_sliceH | exact x_sliceL | exact x_sliceHM)) (hl : put l dst v = l' := by first | (simp only [ev, gt, put, List.set_cons_succ, List.set_cons_zero, Nat.zero_add, Nat.add_zero, Nat.mul_one, Nat.reduceAdd, Nat.reduceMul, Int.toNat_natCast, Int.reduceToNat, List.map_cons, List.map_nil, List.cons_append, List.nil_append]; exact rfl) | simp only [ev, gt, put, List.set_cons_succ, List.set_cons_zero, Nat.zero_add, Nat.add_zero, Nat.mul_one, Nat.reduceAdd, Nat.reduceMul, Int.toNat_natCast, Int.reduceToNat, List.map_cons, List.map_nil, List.cons_append, List.nil_append]) : WO P r ops Q (⟨dst, op, ty, pos, af, none⟩ :: os) l d w :=
  WO.val hx.nd (hx.out _ _ _ _) hl h
theorem WO.offN {op : Op} {j : Nat} {b c : Bool} (hy : yielded ops l.toArray j = some c) (hbc : (c == b) = false) (h : WO P r ops Q os l' d w) (hl : put l dst undef = l' := by first | (simp only [ev, gt, put, List.set_cons_succ, List.set_cons_zero, Nat.zero_add, Nat.add_zero, Nat.mul_one, Nat.reduceAdd, Nat.reduceMul, Int.toNat_natCast, Int.reduceToNat, List.map_cons, List.map_nil, List.cons_append, List.nil_append]; exact rfl) | simp only [ev, gt, put, List.set_cons_succ, List.set_cons_zero, Nat.zero_add, Nat.add_zero, Nat.mul_one, Nat.reduceAdd, Nat.reduceMul, Int.toNat_natCast, Int.reduceToNat, List.map_cons, List.map_nil, List.cons_append, List.nil_append]) : WO P r ops Q (⟨dst, op, ty, pos, af, some (j, b)⟩ :: os) l d w := WO.off hy hbc hl h
theorem WO.offU {op : Op} {j : Nat} {b : Bool} (hy : yielded ops l.toArray j = none) (h : WO P r ops Q os l' d w) (hl : put l dst undef = l' := by first | (simp only [ev, gt, put, List.set_cons_succ, List.set_cons_zero, Nat.zero_add, Nat.add_zero, Nat.mul_one, Nat.reduceAdd, Nat.reduceMul, Int.toNat_natCast, Int.reduceToNat, List.map_cons, List.map_nil, List.cons_append, List.nil_append]; exact rfl) | simp only [ev, gt, put, List.set_cons_succ, List.set_cons_zero, Nat.zero_add, Nat.add_zero, Nat.mul_one, Nat.reduceAdd, Nat.reduceMul, Int.toNat_natCast, Int.reduceToNat, List.map_cons, List.map_nil, List.cons_append, List.nil_append]) : WO P r ops Q (⟨dst, op, ty, pos, af, some (j, b)⟩ :: os) l d w := WO.offNone hy hl h
theorem WO.fr (h : WO P r ops Q os l' d w) (hl : l = l' := by first | (simp only [ev, gt, put, List.set_cons_succ, List.set_cons_zero, Nat.zero_add, Nat.add_zero, Nat.mul_one, Nat.reduceAdd, Nat.reduceMul, Int.toNat_natCast, Int.reduceToNat, List.map_cons, List.map_nil, List.cons_append, List.nil_append]; exact rfl) | simp only [ev, gt, put, List.set_cons_succ, List.set_cons_zero, Nat.zero_add, Nat.add_zero, Nat.mul_one, Nat.reduceAdd, Nat.reduceMul, Int.toNat_natCast, Int.reduceToNat, List.map_cons, List.map_nil, List.cons_append, List.nil_append]) : WO P r ops Q os l d w := WO.frame hl h

/-! Which operation it is: nothing else is tried then. -/
section
variable {t s e : TypeId} {x y z : Operand} {o : BinOp} {u : UnOp} {i : Nat} {fn : Fn} {fs cs : List Operand} {ps : List (Nat × Operand)} {ts : Array TypeId} {as : Array Operand}
theorem is_move (h : Runs P l (.move x) ty w v) : Runs P l (.move x) ty w v := h
theorem is_assign (h : Runs P l (.assign x) ty w v) : Runs P l (.assign x) ty w v := h
theorem is_load (h : Runs P l (.load t x) ty w v) : Runs P l (.load t x) ty w v := h
theorem is_bin (h : Runs P l (.binOp o t x y s) ty w v) : Runs P l (.binOp o t x y s) ty w v := h
theorem is_un (h : Runs P l (.unOp u t x) ty w v) : Runs P l (.unOp u t x) ty w v := h
theorem is_fieldAddr (h : Runs P l (.fieldAddr t x i) ty w v) : Runs P l (.fieldAddr t x i) ty w v := h
theorem is_field (h : Runs P l (.field t x i) ty w v) : Runs P l (.field t x i) ty w v := h
theorem is_pick (h : Runs P l (.pick x y z) ty w v) : Runs P l (.pick x y z) ty w v := h
theorem is_indexAddr (h : Runs P l (.indexAddr t x y) ty w v) : Runs P l (.indexAddr t x y) ty w v := h
theorem is_index (h : Runs P l (.index t x y) ty w v) : Runs P l (.index t x y) ty w v := h
theorem is_builtin {b : Builtin} (h : Runs P l (.call { callee := .builtin b, args := as, argTypes := ts }) ty w v) : Runs P l (.call { callee := .builtin b, args := as, argTypes := ts }) ty w v := h
theorem is_extract (h : Runs P l (.extract x i) ty w v) : Runs P l (.extract x i) ty w v := h
theorem is_nilCheck (h : Runs P l (.nilCheck x) ty w v) : Runs P l (.nilCheck x) ty w v := h
theorem is_makeFunc (h : Runs P l (.makeFunc fn fs.toArray cs.toArray) ty w v) : Runs P l (.makeFunc fn fs.toArray cs.toArray) ty w v := h
theorem is_build (h : Runs P l (.build t ps.toArray) ty w v) : Runs P l (.build t ps.toArray) ty w v := h
theorem is_convert (h : Runs P l (.convert s t x) ty w v) : Runs P l (.convert s t x) ty w v := h
theorem is_slice {lo hi mx : Option Operand} (h : Runs P l (.slice t x lo hi mx) ty w v) : Runs P l (.slice t x lo hi mx) ty w v := h
end

theorem x_move {x : Operand} (hx : ev l x = v := by first | (simp only [ev, gt, put, List.set_cons_succ, List.set_cons_zero, Nat.zero_add, Nat.add_zero, Nat.mul_one, Nat.reduceAdd, Nat.reduceMul, Int.toNat_natCast, Int.reduceToNat, List.map_cons, List.map_nil, List.cons_append, List.nil_append]; exact rfl) | simp only [ev, gt, put, List.set_cons_succ, List.set_cons_zero, Nat.zero_add, Nat.add_zero, Nat.mul_one, Nat.reduceAdd, Nat.reduceMul, Int.toNat_natCast, Int.reduceToNat, List.map_cons, List.map_nil, List.cons_append, List.nil_append]) :
    Runs P l (.move x) ty w v :=
  ⟨by simp, fun _ _ _ _ => by simp [execOp, St_eval, hx]⟩
theorem x_assign {x : Operand} (hx : ev l x = v := by first | (simp only [ev, gt, put, List.set_cons_succ, List.set_cons_zero, Nat.zero_add, Nat.add_zero, Nat.mul_one, Nat.reduceAdd, Nat.reduceMul, Int.toNat_natCast, Int.reduceToNat, List.map_cons, List.map_nil, List.cons_append, List.nil_append]; exact rfl) | simp only [ev, gt, put, List.set_cons_succ, List.set_cons_zero, Nat.zero_add, Nat.add_zero, Nat.mul_one, Nat.reduceAdd, Nat.reduceMul, Int.toNat_natCast, Int.reduceToNat, List.map_cons, List.map_nil, List.cons_append, List.nil_append]) :
    Runs P l (.assign x) ty w v :=
  ⟨by simp, fun _ _ _ _ => by simp [execOp, St_eval, hx]⟩
theorem x_pick {c x y : Operand} {b : Bool} (hc : ev l c = .bool b := by first | (simp only [ev, gt, put, List.set_cons_succ, List.set_cons_zero, Nat.zero_add, Nat.add_zero, Nat.mul_one, Nat.reduceAdd, Nat.reduceMul, Int.toNat_natCast, Int.reduceToNat, List.map_cons, List.map_nil, List.cons_append, List.nil_append]; exact rfl) | simp only [ev, gt, put, List.set_cons_succ, List.set_cons_zero, Nat.zero_add, Nat.add_zero, Nat.mul_one, Nat.reduceAdd, Nat.reduceMul, Int.toNat_natCast, Int.reduceToNat, List.map_cons, List.map_nil, List.cons_append, List.nil_append]) :
    Runs P l (.pick c x y) ty w (if b then ev l x else ev l y) :=
  ⟨by simp, fun _ _ _ _ => by cases b <;> simp [execOp, St_eval, hc, asBool]⟩
theorem op_alloc {t : TypeId} {z : List Value} [hz : Zero P t z] (hg : Goes w0 M Fs w)
    (h : ∀ b w', Goes w0 M ([(b, .cells z.toArray t (0, 0))] :: Fs) w' → WO P r ops Q os (put l dst (.pointer (some ⟨b, 0, none⟩))) d w') :
    WO P r ops Q (⟨dst, .alloc t, ty, pos, af, none⟩ :: os) l d w := by
  obtain ⟨v, hv, hc⟩ := hz.run (w := w)
  refine WO.val (by simp) ?_ rfl (h w.heap.size _ (hg.alloc _))
  simp [execOp, Instr.alloc, hv, newVar, newRow, hc]

theorem op_box1 {t : TypeId} {x : Operand} {v : Value} (hg : Goes w0 M Fs w)
    (h : ∀ b w', Goes w0 M ([(b, .cells [v].toArray t (0, 0))] :: Fs) w' → WO P r ops Q os (put l dst (.pointer (some ⟨b, 0, none⟩))) d w') (hx : ev l x = v := by first | (simp only [ev, gt, put, List.set_cons_succ, List.set_cons_zero, Nat.zero_add, Nat.add_zero, Nat.mul_one, Nat.reduceAdd, Nat.reduceMul, Int.toNat_natCast, Int.reduceToNat, List.map_cons, List.map_nil, List.cons_append, List.nil_append]; exact rfl) | simp only [ev, gt, put, List.set_cons_succ, List.set_cons_zero, Nat.zero_add, Nat.add_zero, Nat.mul_one, Nat.reduceAdd, Nat.reduceMul, Int.toNat_natCast, Int.reduceToNat, List.map_cons, List.map_nil, List.cons_append, List.nil_append]) (hv : v.cells = #[v] := by first | rfl | assumption) :
    WO P r ops Q (⟨dst, .box t x, ty, pos, af, none⟩ :: os) l d w := by
  refine WO.val (by simp) ?_ rfl (h w.heap.size _ (hg.alloc _))
  simp [execOp, Instr.box, newVar, newRow, St_eval, hx, hv]
theorem op_boxA {t : TypeId} {x : Operand} {cs : List Value} (hg : Goes w0 M Fs w)
    (h : ∀ b w', Goes w0 M ([(b, .cells cs.toArray t (0, 0))] :: Fs) w' → WO P r ops Q os (put l dst (.pointer (some ⟨b, 0, none⟩))) d w') (hx : ev l x = .agg cs.toArray := by first | (simp only [ev, gt, put, List.set_cons_succ, List.set_cons_zero, Nat.zero_add, Nat.add_zero, Nat.mul_one, Nat.reduceAdd, Nat.reduceMul, Int.toNat_natCast, Int.reduceToNat, List.map_cons, List.map_nil, List.cons_append, List.nil_append]; exact rfl) | simp only [ev, gt, put, List.set_cons_succ, List.set_cons_zero, Nat.zero_add, Nat.add_zero, Nat.mul_one, Nat.reduceAdd, Nat.reduceMul, Int.toNat_natCast, Int.reduceToNat, List.map_cons, List.map_nil, List.cons_append, List.nil_append]) :
    WO P r ops Q (⟨dst, .box t x, ty, pos, af, none⟩ :: os) l d w := by
  refine WO.val (by simp) ?_ rfl (h w.heap.size _ (hg.alloc _))
  simp [execOp, Instr.box, newVar, newRow, St_eval, hx, Value.cells]

theorem x_load {t : TypeId} {x : Operand} {a : Addr} [ht : Scal P t] (hx : ev l x = .pointer (some a) := by first | (simp only [ev, gt, put, List.set_cons_succ, List.set_cons_zero, Nat.zero_add, Nat.add_zero, Nat.mul_one, Nat.reduceAdd, Nat.reduceMul, Int.toNat_natCast, Int.reduceToNat, List.map_cons, List.map_nil, List.cons_append, List.nil_append]; exact rfl) | simp only [ev, gt, put, List.set_cons_succ, List.set_cons_zero, Nat.zero_add, Nat.add_zero, Nat.mul_one, Nat.reduceAdd, Nat.reduceMul, Int.toNat_natCast, Int.reduceToNat, List.map_cons, List.map_nil, List.cons_append, List.nil_append]) (hc : w.cell? a = some v := by first | with_reducible assumption | ((with_reducible apply CellAt.cell (hg := hg)); (repeat (first | ((with_reducible apply CellAt.here); (first | exact rfl | with_reducible assumption)) | with_reducible apply CellAt.more | with_reducible apply CellAt.next)); done) | ((with_reducible apply hg.cellOld0); with_reducible assumption) | with_reducible exact c1 hg | with_reducible exact c2 hg | with_reducible exact c3 hg | with_reducible exact c4 hg | with_reducible exact c5 hg | with_reducible exact c6 hg | with_reducible exact c7 hg | with_reducible exact c8 hg | with_reducible exact c9 hg | with_reducible exact s1 hs | with_reducible exact s2 hs | with_reducible exact s3 hs | with_reducible exact s4 hs | with_reducible exact s5 hs | with_reducible exact s6 hs | with_reducible exact s7 hs | with_reducible exact s8 hs | with_reducible exact s9 hs) :
    Runs P l (.load t x) ty w v := by
  refine ⟨by simp, fun d dst pos af => ?_⟩
  simp [execOp, Instr.loadAt, Instr.sureAddr, loadVar, ht.run, St_eval, hx, hc]

/-- n cells from an address on. -/
def Cells (w : World) (a : Addr) (cs : List Value) : Prop := ∀ j v, cs[j]? = some v → w.cell? (a.add j) = some v

/-- .. just so many. -/
def Ldn (w : World) (a : Addr) (n : Nat) (cs : List Value) : Prop := Cells w a cs ∧ cs.length = n

theorem Goes.cells0 {a : Addr} {cs : List Value} (hg : Goes w0 [] Fs w) (h : Cells w0 a cs) : Cells w a cs := hg.cellsOld h (by simp)

theorem x_loadA {t : TypeId} {x : Operand} {a : Addr} {cs : List Value} {n : Nat} [ht : Aggr P t] [ht2 : Size P t n] (hx : ev l x = .pointer (some a) := by first | (simp only [ev, gt, put, List.set_cons_succ, List.set_cons_zero, Nat.zero_add, Nat.add_zero, Nat.mul_one, Nat.reduceAdd, Nat.reduceMul, Int.toNat_natCast, Int.reduceToNat, List.map_cons, List.map_nil, List.cons_append, List.nil_append]; exact rfl) | simp only [ev, gt, put, List.set_cons_succ, List.set_cons_zero, Nat.zero_add, Nat.add_zero, Nat.mul_one, Nat.reduceAdd, Nat.reduceMul, Int.toNat_natCast, Int.reduceToNat, List.map_cons, List.map_nil, List.cons_append, List.nil_append]) (hc : Ldn w a n cs := by first | with_reducible assumption | ((with_reducible apply Cells.ldn); (first | with_reducible assumption | ((with_reducible apply hg.cells0); with_reducible assumption) | with_reducible exact r1 hg | with_reducible exact r2 hg | with_reducible exact r3 hg | with_reducible exact r4 hg | with_reducible exact r5 hg | with_reducible exact t1 hs | with_reducible exact t2 hs | with_reducible exact t3 hs | with_reducible exact t4 hs); exact rfl) | ((with_reducible apply CellsAt.ldn (hg := hg)); (repeat (first | ((with_reducible apply CellsAt.whole); exact rfl) | ((with_reducible apply CellsAt.here) <;> first | with_reducible assumption | (simp only [List.drop_zero, List.drop_succ_cons, List.take_succ_cons, List.take_zero]; exact rfl) | exact rfl) | with_reducible apply CellsAt.more | with_reducible apply CellsAt.next)); done)) :
    Runs P l (.load t x) ty w (.agg cs.toArray) := by
  refine ⟨by simp, fun d dst pos af => ?_⟩
  have := run_loadCells_list (P := P) w a cs hc.1
  rw [hc.2] at this
  simp [execOp, Instr.loadAt, Instr.sureAddr, loadVar, ht.run, ht2.run, St_eval, hx, this]

theorem add_lit (b k j : Nat) : (⟨b, k, none⟩ : Addr).add j = ⟨b, k + j, none⟩ := by
  unfold Addr.add; split
  · next h => subst h; rfl
  · rfl

theorem Has.cells {b k : Nat} {bl : List Value} {t : TypeId} {f : Nat × Nat} (h : Has b (.cells bl.toArray t f) Fs) (hg : Goes w0 M Fs w) (n : Nat) : Cells w ⟨b, k, none⟩ ((bl.drop k).take n) := by
  intro j v hj
  rw [add_lit]
  refine h.cell hg ?_
  rw [List.getElem?_take] at hj
  split at hj
  · simpa using hj
  · cases hj

theorem CellsAt.ldn {b k n : Nat} {cs : List Value} (h : CellsAt b k n cs Fs) (hg : Goes w0 M Fs w) : Ldn w ⟨b, k, none⟩ n cs := by
  obtain ⟨bl, t, z, h1, h2, h3⟩ := h.has
  exact ⟨h2 ▸ h1.cells hg n, h3⟩
theorem Cells.ldn {a : Addr} {n : Nat} {cs : List Value} (h : Cells w a cs) (hn : cs.length = n) : Ldn w a n cs := ⟨h, hn⟩

theorem op_store {t : TypeId} {x y : Operand} {b k : Nat} {bl : List Value} {et : TypeId} {u : Value} [ht : Size P t 1] (hg : Goes w0 M Fs w)
    (h : ∀ w', Goes w0 M Fs' w' → WO P r ops Q os (put l dst undef) d w') (hx : ev l x = .pointer (some ⟨b, k, none⟩) := by first | (simp only [ev, gt, put, List.set_cons_succ, List.set_cons_zero, Nat.zero_add, Nat.add_zero, Nat.mul_one, Nat.reduceAdd, Nat.reduceMul, Int.toNat_natCast, Int.reduceToNat, List.map_cons, List.map_nil, List.cons_append, List.nil_append]; exact rfl) | simp only [ev, gt, put, List.set_cons_succ, List.set_cons_zero, Nat.zero_add, Nat.add_zero, Nat.mul_one, Nat.reduceAdd, Nat.reduceMul, Int.toNat_natCast, Int.reduceToNat, List.map_cons, List.map_nil, List.cons_append, List.nil_append]) (hy : ev l y = u := by first | (simp only [ev, gt, put, List.set_cons_succ, List.set_cons_zero, Nat.zero_add, Nat.add_zero, Nat.mul_one, Nat.reduceAdd, Nat.reduceMul, Int.toNat_natCast, Int.reduceToNat, List.map_cons, List.map_nil, List.cons_append, List.nil_append]; exact rfl) | simp only [ev, gt, put, List.set_cons_succ, List.set_cons_zero, Nat.zero_add, Nat.add_zero, Nat.mul_one, Nat.reduceAdd, Nat.reduceMul, Int.toNat_natCast, Int.reduceToNat, List.map_cons, List.map_nil, List.cons_append, List.nil_append]) (hu : u.oneCell' = true := by exact rfl)
    (hT : Turn b (.cells bl.toArray et (0, 0)) (.cells (bl.set k u).toArray et (0, 0)) Fs Fs' := by repeat (first | with_reducible exact Turn.here | with_reducible apply Turn.more | with_reducible apply Turn.next)) (hk : k < bl.length := by simp only [List.length_cons, List.length_nil]; omega) : WO P r ops Q (⟨dst, .store t x y, ty, pos, af, none⟩ :: os) l d w := by
  have hT' : Turn b (.cells bl.toArray et (0, 0)) (.cells (bl.toArray.setIfInBounds k u) et (0, 0)) Fs Fs' := by simpa using hT
  have hb := hT.own hg
  refine WO.skp (by simp) ?_ rfl (h _ (hT'.setCell hg))
  have hcs : u.cells = #[u] := by cases u <;> first | rfl | simp [Value.oneCell'] at hu
  have hc : w.cell? ⟨b, k, none⟩ = some (bl[k]'hk) := by simp [World.cell?, hb, hk]
  have hf : w.frozen? ⟨b, k, none⟩ = false := by simp [World.frozen?, hb]
  have h0 : (⟨b, k, none⟩ : Addr).add 0 = ⟨b, k, none⟩ := rfl
  simp [execOp, Instr.storeAt, Instr.sureAddr, storeVar, ht.run, St_eval, hx, hy, hcs, storeCells, h0, run_store P w _ u .plain hu, hc, hf]

theorem op_st {t : TypeId} {x y : Operand} {b k : Nat} {bl bl' : List Value} {et : TypeId} {u : Value} [ht : Size P t 1] (hg : Goes w0 M Fs w)
    (h : ∀ w', Goes w0 M Fs' w' → WO P r ops Q os (put l dst undef) d w') (hx : ev l x = .pointer (some ⟨b, k, none⟩) := by first | (simp only [ev, gt, put, List.set_cons_succ, List.set_cons_zero, Nat.zero_add, Nat.add_zero, Nat.mul_one, Nat.reduceAdd, Nat.reduceMul, Int.toNat_natCast, Int.reduceToNat, List.map_cons, List.map_nil, List.cons_append, List.nil_append]; exact rfl) | simp only [ev, gt, put, List.set_cons_succ, List.set_cons_zero, Nat.zero_add, Nat.add_zero, Nat.mul_one, Nat.reduceAdd, Nat.reduceMul, Int.toNat_natCast, Int.reduceToNat, List.map_cons, List.map_nil, List.cons_append, List.nil_append]) (hy : ev l y = u := by first | (simp only [ev, gt, put, List.set_cons_succ, List.set_cons_zero, Nat.zero_add, Nat.add_zero, Nat.mul_one, Nat.reduceAdd, Nat.reduceMul, Int.toNat_natCast, Int.reduceToNat, List.map_cons, List.map_nil, List.cons_append, List.nil_append]; exact rfl) | simp only [ev, gt, put, List.set_cons_succ, List.set_cons_zero, Nat.zero_add, Nat.add_zero, Nat.mul_one, Nat.reduceAdd, Nat.reduceMul, Int.toNat_natCast, Int.reduceToNat, List.map_cons, List.map_nil, List.cons_append, List.nil_append]) (hu : u.oneCell' = true := by exact rfl)
    (hT : Turn b (.cells bl.toArray et (0, 0)) (.cells bl'.toArray et (0, 0)) Fs Fs' := by repeat (first | with_reducible exact Turn.here | with_reducible apply Turn.more | with_reducible apply Turn.next)) (hs : bl.set k u = bl' := by first | (simp only [List.set_cons_succ, List.set_cons_zero]; exact rfl) | exact rfl) (hk : k < bl.length := by simp only [List.length_cons, List.length_nil]; omega) : WO P r ops Q (⟨dst, .store t x y, ty, pos, af, none⟩ :: os) l d w := by
  subst hs
  exact op_store hg h hx hy hu hT hk

theorem Turn.setRow {b : Nat} {c c' : Array Value} {t : TypeId} {f : Nat × Nat} (h : Turn b (.cells c t f) (.cells c' t f) Fs Fs') (hg : Goes w0 M Fs w) : Goes w0 M Fs' (w.setRow b c') := by
  have hb := h.own hg
  refine h.goes hg rfl rfl rfl (by simp [World.setRow]) (fun k hk => ?_) ?_
  · simp only [World.setRow, Array.getElem?_modify]
    rw [if_neg (fun e => hk e.symm)]
  · simp [World.setRow, Array.getElem?_modify, hb]

/-- A list's cells from a place on, replaced. -/
def over (l : List Value) (k : Nat) (cs : List Value) : List Value := l.take k ++ cs ++ l.drop (k + cs.length)

theorem op_storeA {t : TypeId} {x y : Operand} {b k n : Nat} {bl cs : List Value} {et : TypeId} [ht : Size P t n] (hg : Goes w0 M Fs w)
    (h : ∀ w', Goes w0 M Fs' w' → WO P r ops Q os (put l dst undef) d w') (hx : ev l x = .pointer (some ⟨b, k, none⟩) := by first | (simp only [ev, gt, put, List.set_cons_succ, List.set_cons_zero, Nat.zero_add, Nat.add_zero, Nat.mul_one, Nat.reduceAdd, Nat.reduceMul, Int.toNat_natCast, Int.reduceToNat, List.map_cons, List.map_nil, List.cons_append, List.nil_append]; exact rfl) | simp only [ev, gt, put, List.set_cons_succ, List.set_cons_zero, Nat.zero_add, Nat.add_zero, Nat.mul_one, Nat.reduceAdd, Nat.reduceMul, Int.toNat_natCast, Int.reduceToNat, List.map_cons, List.map_nil, List.cons_append, List.nil_append]) (hy : ev l y = .agg cs.toArray := by first | (simp only [ev, gt, put, List.set_cons_succ, List.set_cons_zero, Nat.zero_add, Nat.add_zero, Nat.mul_one, Nat.reduceAdd, Nat.reduceMul, Int.toNat_natCast, Int.reduceToNat, List.map_cons, List.map_nil, List.cons_append, List.nil_append]; exact rfl) | simp only [ev, gt, put, List.set_cons_succ, List.set_cons_zero, Nat.zero_add, Nat.add_zero, Nat.mul_one, Nat.reduceAdd, Nat.reduceMul, Int.toNat_natCast, Int.reduceToNat, List.map_cons, List.map_nil, List.cons_append, List.nil_append]) (hn : cs.length = n := by exact rfl) (hu : cs.all (·.oneCell') = true := by exact rfl)
    (hT : Turn b (.cells bl.toArray et (0, 0)) (.cells (over bl k cs).toArray et (0, 0)) Fs Fs' := by repeat (first | with_reducible exact Turn.here | with_reducible apply Turn.more | with_reducible apply Turn.next)) (hk : k + cs.length ≤ bl.length := by simp only [List.length_cons, List.length_nil]; omega) : WO P r ops Q (⟨dst, .store t x y, ty, pos, af, none⟩ :: os) l d w := by
  have hb := hT.own hg
  refine WO.skp (by simp) ?_ rfl (h _ (hT.setRow hg))
  have h1 := run_storeCells_at (P := P) b k et cs 0 bl.toArray w hb (by simpa using hk) (by simpa using hu)
  simp only [Nat.add_zero] at h1
  simp [execOp, Instr.storeAt, Instr.sureAddr, storeVar, ht.run, St_eval, hx, hy, Value.cells, hn, over] at h1 ⊢
  simp [h1, hn]

theorem op_stA {t : TypeId} {x y : Operand} {b k n : Nat} {bl bl' cs : List Value} {et : TypeId} [ht : Size P t n] (hg : Goes w0 M Fs w)
    (h : ∀ w', Goes w0 M Fs' w' → WO P r ops Q os (put l dst undef) d w') (hx : ev l x = .pointer (some ⟨b, k, none⟩) := by first | (simp only [ev, gt, put, List.set_cons_succ, List.set_cons_zero, Nat.zero_add, Nat.add_zero, Nat.mul_one, Nat.reduceAdd, Nat.reduceMul, Int.toNat_natCast, Int.reduceToNat, List.map_cons, List.map_nil, List.cons_append, List.nil_append]; exact rfl) | simp only [ev, gt, put, List.set_cons_succ, List.set_cons_zero, Nat.zero_add, Nat.add_zero, Nat.mul_one, Nat.reduceAdd, Nat.reduceMul, Int.toNat_natCast, Int.reduceToNat, List.map_cons, List.map_nil, List.cons_append, List.nil_append]) (hy : ev l y = .agg cs.toArray := by first | (simp only [ev, gt, put, List.set_cons_succ, List.set_cons_zero, Nat.zero_add, Nat.add_zero, Nat.mul_one, Nat.reduceAdd, Nat.reduceMul, Int.toNat_natCast, Int.reduceToNat, List.map_cons, List.map_nil, List.cons_append, List.nil_append]; exact rfl) | simp only [ev, gt, put, List.set_cons_succ, List.set_cons_zero, Nat.zero_add, Nat.add_zero, Nat.mul_one, Nat.reduceAdd, Nat.reduceMul, Int.toNat_natCast, Int.reduceToNat, List.map_cons, List.map_nil, List.cons_append, List.nil_append]) (hn : cs.length = n := by exact rfl) (hu : cs.all (·.oneCell') = true := by exact rfl)
    (hT : Turn b (.cells bl.toArray et (0, 0)) (.cells bl'.toArray et (0, 0)) Fs Fs' := by repeat (first | with_reducible exact Turn.here | with_reducible apply Turn.more | with_reducible apply Turn.next)) (hs : over bl k cs = bl' := by first | (simp only [over, List.take_zero, List.take_succ_cons, List.drop_zero, List.drop_succ_cons, List.nil_append, List.cons_append, List.append_nil, List.length_cons, List.length_nil, Nat.zero_add, Nat.reduceAdd, splice, cellsL]; exact rfl) | exact rfl) (hk : k + cs.length ≤ bl.length := by simp only [List.length_cons, List.length_nil]; omega) : WO P r ops Q (⟨dst, .store t x y, ty, pos, af, none⟩ :: os) l d w := by
  subst hs
  exact op_storeA hg h hx hy hn hu hT hk

/-! ### Pure ones -/

theorem x_nilCheck {x : Operand} {a : Addr} (hx : ev l x = .pointer (some a) := by first | (simp only [ev, gt, put, List.set_cons_succ, List.set_cons_zero, Nat.zero_add, Nat.add_zero, Nat.mul_one, Nat.reduceAdd, Nat.reduceMul, Int.toNat_natCast, Int.reduceToNat, List.map_cons, List.map_nil, List.cons_append, List.nil_append]; exact rfl) | simp only [ev, gt, put, List.set_cons_succ, List.set_cons_zero, Nat.zero_add, Nat.add_zero, Nat.mul_one, Nat.reduceAdd, Nat.reduceMul, Int.toNat_natCast, Int.reduceToNat, List.map_cons, List.map_nil, List.cons_append, List.nil_append]) :
    Runs P l (.nilCheck x) ty w (.pointer (some a)) :=
  ⟨by simp, fun _ _ _ _ => by simp [execOp, St_eval, hx]⟩
/-- The kinds of operator. -/
class ArO (o : BinOp) : Prop
class CmpO (o : BinOp) : Prop
instance : ArO .add := ⟨⟩
instance : ArO .sub := ⟨⟩
instance : ArO .mul := ⟨⟩
instance : CmpO .eql := ⟨⟩
instance : CmpO .neq := ⟨⟩
instance : CmpO .lss := ⟨⟩
instance : CmpO .leq := ⟨⟩
instance : CmpO .gtr := ⟨⟩
instance : CmpO .geq := ⟨⟩
def arB : BinOp → Int → Int → Option Int
  | .add, a, b => some (a + b)
  | .sub, a, b => some (a - b)
  | .mul, a, b => some (a * b)
  | _, _, _ => none
def cmpB : BinOp → Int → Int → Option Bool
  | .eql, a, b => some (a == b)
  | .neq, a, b => some (a != b)
  | .lss, a, b => some (decide (a < b))
  | .leq, a, b => some (decide (a ≤ b))
  | .gtr, a, b => some (decide (a > b))
  | .geq, a, b => some (decide (a ≥ b))
  | _, _, _ => none

theorem lssT {a b : Int} (h : a < b) : cmpB .lss a b = some true := by simp [cmpB, h]
theorem lssF {a b : Int} (h : b ≤ a) : cmpB .lss a b = some false := by simp [cmpB]; omega
theorem leqT {a b : Int} (h : a ≤ b) : cmpB .leq a b = some true := by simp [cmpB, h]
theorem leqF {a b : Int} (h : b < a) : cmpB .leq a b = some false := by simp [cmpB]; omega
theorem gtrT {a b : Int} (h : b < a) : cmpB .gtr a b = some true := by simp [cmpB]; omega
theorem gtrF {a b : Int} (h : a ≤ b) : cmpB .gtr a b = some false := by simp [cmpB]; omega
theorem geqT {a b : Int} (h : b ≤ a) : cmpB .geq a b = some true := by simp [cmpB]; omega
theorem geqF {a b : Int} (h : a < b) : cmpB .geq a b = some false := by simp [cmpB]; omega
theorem eqlT {a b : Int} (h : a = b) : cmpB .eql a b = some true := by simp [cmpB, h]
theorem eqlF {a b : Int} (h : a ≠ b) : cmpB .eql a b = some false := by simp [cmpB, h]
theorem neqT {a b : Int} (h : a ≠ b) : cmpB .neq a b = some true := by simp [cmpB, h]
theorem neqF {a b : Int} (h : a = b) : cmpB .neq a b = some false := by simp [cmpB, h]

/-- Sums, differences, products of ints that fit. -/
theorem x_arith {o : BinOp} {t t' : TypeId} {x y : Operand} {ki : IntKind} {a b n : Int} [ArO o] [Und P t (.int ki)] (hx : ev l x = .int .i64 a := by first | (simp only [ev, gt, put, List.set_cons_succ, List.set_cons_zero, Nat.zero_add, Nat.add_zero, Nat.mul_one, Nat.reduceAdd, Nat.reduceMul, Int.toNat_natCast, Int.reduceToNat, List.map_cons, List.map_nil, List.cons_append, List.nil_append]; exact rfl) | simp only [ev, gt, put, List.set_cons_succ, List.set_cons_zero, Nat.zero_add, Nat.add_zero, Nat.mul_one, Nat.reduceAdd, Nat.reduceMul, Int.toNat_natCast, Int.reduceToNat, List.map_cons, List.map_nil, List.cons_append, List.nil_append]) (hy : ev l y = .int .i64 b := by first | (simp only [ev, gt, put, List.set_cons_succ, List.set_cons_zero, Nat.zero_add, Nat.add_zero, Nat.mul_one, Nat.reduceAdd, Nat.reduceMul, Int.toNat_natCast, Int.reduceToNat, List.map_cons, List.map_nil, List.cons_append, List.nil_append]; exact rfl) | simp only [ev, gt, put, List.set_cons_succ, List.set_cons_zero, Nat.zero_add, Nat.add_zero, Nat.mul_one, Nat.reduceAdd, Nat.reduceMul, Int.toNat_natCast, Int.reduceToNat, List.map_cons, List.map_nil, List.cons_append, List.nil_append]) (ho : arB o a b = some n := by exact rfl) (hr : -9223372036854775808 ≤ n ∧ n ≤ 9223372036854775807 := by omega) :
    Runs P l (.binOp o t x y t') ty w (.int .i64 n) := by
  refine ⟨by simp, fun d dst pos af => ?_⟩
  cases o <;> simp only [arB, Option.some.injEq, reduceCtorEq] at ho <;> subst ho <;> simp [execOp, eqGuard, St_eval, hx, hy, binOp, Op.intArith, IntWalk.i64_in _ hr]
/-- .. of whatever kind, with the wrap. -/
theorem x_arithW {o : BinOp} {t t' : TypeId} {x y : Operand} {k : IntKind} {ki : IntKind} {a b n : Int} [ArO o] [Und P t (.int ki)] (hx : ev l x = .int k a := by first | (simp only [ev, gt, put, List.set_cons_succ, List.set_cons_zero, Nat.zero_add, Nat.add_zero, Nat.mul_one, Nat.reduceAdd, Nat.reduceMul, Int.toNat_natCast, Int.reduceToNat, List.map_cons, List.map_nil, List.cons_append, List.nil_append]; exact rfl) | simp only [ev, gt, put, List.set_cons_succ, List.set_cons_zero, Nat.zero_add, Nat.add_zero, Nat.mul_one, Nat.reduceAdd, Nat.reduceMul, Int.toNat_natCast, Int.reduceToNat, List.map_cons, List.map_nil, List.cons_append, List.nil_append]) (hy : ev l y = .int k b := by first | (simp only [ev, gt, put, List.set_cons_succ, List.set_cons_zero, Nat.zero_add, Nat.add_zero, Nat.mul_one, Nat.reduceAdd, Nat.reduceMul, Int.toNat_natCast, Int.reduceToNat, List.map_cons, List.map_nil, List.cons_append, List.nil_append]; exact rfl) | simp only [ev, gt, put, List.set_cons_succ, List.set_cons_zero, Nat.zero_add, Nat.add_zero, Nat.mul_one, Nat.reduceAdd, Nat.reduceMul, Int.toNat_natCast, Int.reduceToNat, List.map_cons, List.map_nil, List.cons_append, List.nil_append]) (ho : arB o a b = some n := by exact rfl) :
    Runs P l (.binOp o t x y t') ty w (.int k (k.wrap n)) := by
  refine ⟨by simp, fun d dst pos af => ?_⟩
  cases o <;> simp only [arB, Option.some.injEq, reduceCtorEq] at ho <;> subst ho <;> simp [execOp, eqGuard, St_eval, hx, hy, binOp, Op.intArith]
theorem x_cmp {o : BinOp} {t t' : TypeId} {x y : Operand} {k : IntKind} {a b : Int} {c : Bool} {ki : IntKind} [CmpO o] [Und P t (.int ki)] (hx : ev l x = .int k a := by first | (simp only [ev, gt, put, List.set_cons_succ, List.set_cons_zero, Nat.zero_add, Nat.add_zero, Nat.mul_one, Nat.reduceAdd, Nat.reduceMul, Int.toNat_natCast, Int.reduceToNat, List.map_cons, List.map_nil, List.cons_append, List.nil_append]; exact rfl) | simp only [ev, gt, put, List.set_cons_succ, List.set_cons_zero, Nat.zero_add, Nat.add_zero, Nat.mul_one, Nat.reduceAdd, Nat.reduceMul, Int.toNat_natCast, Int.reduceToNat, List.map_cons, List.map_nil, List.cons_append, List.nil_append]) (hy : ev l y = .int k b := by first | (simp only [ev, gt, put, List.set_cons_succ, List.set_cons_zero, Nat.zero_add, Nat.add_zero, Nat.mul_one, Nat.reduceAdd, Nat.reduceMul, Int.toNat_natCast, Int.reduceToNat, List.map_cons, List.map_nil, List.cons_append, List.nil_append]; exact rfl) | simp only [ev, gt, put, List.set_cons_succ, List.set_cons_zero, Nat.zero_add, Nat.add_zero, Nat.mul_one, Nat.reduceAdd, Nat.reduceMul, Int.toNat_natCast, Int.reduceToNat, List.map_cons, List.map_nil, List.cons_append, List.nil_append]) (ho : cmpB o a b = some c := by first | exact lssT (by omega) | exact lssF (by omega) | exact leqT (by omega) | exact leqF (by omega) | exact eqlT (by omega) | exact eqlF (by omega) | exact neqT (by omega) | exact neqF (by omega) | exact geqT (by omega) | exact geqF (by omega) | exact gtrT (by omega) | exact gtrF (by omega)) :
    Runs P l (.binOp o t x y t') ty w (.bool c) := by
  refine ⟨by simp, fun d dst pos af => ?_⟩
  cases o <;> simp only [cmpB, Option.some.injEq, reduceCtorEq] at ho <;> subst ho <;> simp [execOp, eqGuard, St_eval, hx, hy, binOp, Op.intCmp]
theorem x_quo {t t' : TypeId} {x y : Operand} {a b : Int} {ki : IntKind} [Und P t (.int ki)] (hx : ev l x = .int .i64 a := by first | (simp only [ev, gt, put, List.set_cons_succ, List.set_cons_zero, Nat.zero_add, Nat.add_zero, Nat.mul_one, Nat.reduceAdd, Nat.reduceMul, Int.toNat_natCast, Int.reduceToNat, List.map_cons, List.map_nil, List.cons_append, List.nil_append]; exact rfl) | simp only [ev, gt, put, List.set_cons_succ, List.set_cons_zero, Nat.zero_add, Nat.add_zero, Nat.mul_one, Nat.reduceAdd, Nat.reduceMul, Int.toNat_natCast, Int.reduceToNat, List.map_cons, List.map_nil, List.cons_append, List.nil_append]) (hy : ev l y = .int .i64 b := by first | (simp only [ev, gt, put, List.set_cons_succ, List.set_cons_zero, Nat.zero_add, Nat.add_zero, Nat.mul_one, Nat.reduceAdd, Nat.reduceMul, Int.toNat_natCast, Int.reduceToNat, List.map_cons, List.map_nil, List.cons_append, List.nil_append]; exact rfl) | simp only [ev, gt, put, List.set_cons_succ, List.set_cons_zero, Nat.zero_add, Nat.add_zero, Nat.mul_one, Nat.reduceAdd, Nat.reduceMul, Int.toNat_natCast, Int.reduceToNat, List.map_cons, List.map_nil, List.cons_append, List.nil_append]) (ha : 0 ≤ a ∧ a ≤ 9223372036854775807 := by omega) (hb : 0 < b := by omega) :
    Runs P l (.binOp .quo t x y t') ty w (.int .i64 (a / b)) := by
  refine ⟨by simp, fun d dst pos af => ?_⟩
  have e : a.tdiv b = a / b := Int.tdiv_eq_ediv_of_nonneg ha.1
  have hr : -9223372036854775808 ≤ a / b ∧ a / b ≤ 9223372036854775807 := by
    have h1 := Int.ediv_nonneg ha.1 (Int.le_of_lt hb)
    have h2 : a / b ≤ a := Int.ediv_le_self _ ha.1
    omega
  simp [execOp, eqGuard, St_eval, hx, hy, binOp, Op.intDiv, Int.ne_of_gt hb, e, IntWalk.i64_in _ hr]
theorem x_rem {t t' : TypeId} {x y : Operand} {a b : Int} {ki : IntKind} [Und P t (.int ki)] (hx : ev l x = .int .i64 a := by first | (simp only [ev, gt, put, List.set_cons_succ, List.set_cons_zero, Nat.zero_add, Nat.add_zero, Nat.mul_one, Nat.reduceAdd, Nat.reduceMul, Int.toNat_natCast, Int.reduceToNat, List.map_cons, List.map_nil, List.cons_append, List.nil_append]; exact rfl) | simp only [ev, gt, put, List.set_cons_succ, List.set_cons_zero, Nat.zero_add, Nat.add_zero, Nat.mul_one, Nat.reduceAdd, Nat.reduceMul, Int.toNat_natCast, Int.reduceToNat, List.map_cons, List.map_nil, List.cons_append, List.nil_append]) (hy : ev l y = .int .i64 b := by first | (simp only [ev, gt, put, List.set_cons_succ, List.set_cons_zero, Nat.zero_add, Nat.add_zero, Nat.mul_one, Nat.reduceAdd, Nat.reduceMul, Int.toNat_natCast, Int.reduceToNat, List.map_cons, List.map_nil, List.cons_append, List.nil_append]; exact rfl) | simp only [ev, gt, put, List.set_cons_succ, List.set_cons_zero, Nat.zero_add, Nat.add_zero, Nat.mul_one, Nat.reduceAdd, Nat.reduceMul, Int.toNat_natCast, Int.reduceToNat, List.map_cons, List.map_nil, List.cons_append, List.nil_append]) (ha : 0 ≤ a := by omega) (hb : 0 < b := by omega) :
    Runs P l (.binOp .rem t x y t') ty w (.int .i64 (a % b)) := by
  refine ⟨by simp, fun d dst pos af => ?_⟩
  have e : a.tmod b = a % b := Int.tmod_eq_emod_of_nonneg ha
  simp [execOp, eqGuard, St_eval, hx, hy, binOp, Op.intDiv, Int.ne_of_gt hb, e]
theorem x_not {t : TypeId} {x : Operand} {b : Bool} (hx : ev l x = .bool b := by first | (simp only [ev, gt, put, List.set_cons_succ, List.set_cons_zero, Nat.zero_add, Nat.add_zero, Nat.mul_one, Nat.reduceAdd, Nat.reduceMul, Int.toNat_natCast, Int.reduceToNat, List.map_cons, List.map_nil, List.cons_append, List.nil_append]; exact rfl) | simp only [ev, gt, put, List.set_cons_succ, List.set_cons_zero, Nat.zero_add, Nat.add_zero, Nat.mul_one, Nat.reduceAdd, Nat.reduceMul, Int.toNat_natCast, Int.reduceToNat, List.map_cons, List.map_nil, List.cons_append, List.nil_append]) :
    Runs P l (.unOp .not t x) ty w (.bool (!b)) :=
  ⟨by simp, fun _ _ _ _ => by simp [execOp, St_eval, hx, Op.unary]⟩
def eqB : BinOp → Bool → Option Bool
  | .eql, b => some b
  | .neq, b => some (!b)
  | _, _ => none
theorem x_eqStr {o : BinOp} {t t' : TypeId} {x y : Operand} {a b : ByteArray} {c : Bool} [Und P t .string] (hx : ev l x = .string a := by first | (simp only [ev, gt, put, List.set_cons_succ, List.set_cons_zero, Nat.zero_add, Nat.add_zero, Nat.mul_one, Nat.reduceAdd, Nat.reduceMul, Int.toNat_natCast, Int.reduceToNat, List.map_cons, List.map_nil, List.cons_append, List.nil_append]; exact rfl) | simp only [ev, gt, put, List.set_cons_succ, List.set_cons_zero, Nat.zero_add, Nat.add_zero, Nat.mul_one, Nat.reduceAdd, Nat.reduceMul, Int.toNat_natCast, Int.reduceToNat, List.map_cons, List.map_nil, List.cons_append, List.nil_append]) (hy : ev l y = .string b := by first | (simp only [ev, gt, put, List.set_cons_succ, List.set_cons_zero, Nat.zero_add, Nat.add_zero, Nat.mul_one, Nat.reduceAdd, Nat.reduceMul, Int.toNat_natCast, Int.reduceToNat, List.map_cons, List.map_nil, List.cons_append, List.nil_append]; exact rfl) | simp only [ev, gt, put, List.set_cons_succ, List.set_cons_zero, Nat.zero_add, Nat.add_zero, Nat.mul_one, Nat.reduceAdd, Nat.reduceMul, Int.toNat_natCast, Int.reduceToNat, List.map_cons, List.map_nil, List.cons_append, List.nil_append]) (ho : eqB o (a == b) = some c := by exact rfl) :
    Runs P l (.binOp o t x y t') ty w (.bool c) := by
  refine ⟨by simp, fun d dst pos af => ?_⟩
  cases o <;> simp only [eqB, Option.some.injEq, reduceCtorEq] at ho <;> subst ho <;> simp [execOp, eqGuard, St_eval, hx, hy, binOp, Op.stringOp, beq_toListBytes]
/-- A pointer, a slice, a map held against nil. -/
theorem x_eqPtrNil {o : BinOp} {t t' e : TypeId} {x y : Operand} {a : Option Addr} {c : Bool} [H : Und P t (.pointer e)] (hx : ev l x = .pointer a := by first | (simp only [ev, gt, put, List.set_cons_succ, List.set_cons_zero, Nat.zero_add, Nat.add_zero, Nat.mul_one, Nat.reduceAdd, Nat.reduceMul, Int.toNat_natCast, Int.reduceToNat, List.map_cons, List.map_nil, List.cons_append, List.nil_append]; exact rfl) | simp only [ev, gt, put, List.set_cons_succ, List.set_cons_zero, Nat.zero_add, Nat.add_zero, Nat.mul_one, Nat.reduceAdd, Nat.reduceMul, Int.toNat_natCast, Int.reduceToNat, List.map_cons, List.map_nil, List.cons_append, List.nil_append]) (hy : ev l y = .pointer none := by first | (simp only [ev, gt, put, List.set_cons_succ, List.set_cons_zero, Nat.zero_add, Nat.add_zero, Nat.mul_one, Nat.reduceAdd, Nat.reduceMul, Int.toNat_natCast, Int.reduceToNat, List.map_cons, List.map_nil, List.cons_append, List.nil_append]; exact rfl) | simp only [ev, gt, put, List.set_cons_succ, List.set_cons_zero, Nat.zero_add, Nat.add_zero, Nat.mul_one, Nat.reduceAdd, Nat.reduceMul, Int.toNat_natCast, Int.reduceToNat, List.map_cons, List.map_nil, List.cons_append, List.nil_append]) (ho : eqB o a.isNone = some c := by exact rfl) :
    Runs P l (.binOp o t x y t') ty w (.bool c) := by
  refine ⟨by simp, fun d dst pos af => ?_⟩
  have hp : P.underlying t = some (.pointer (P.pointee t)) := by simp [Program.pointee, H.out]
  cases o <;> simp only [eqB, Option.some.injEq, reduceCtorEq] at ho <;> subst ho <;> simp [execOp, eqGuard, St_eval, hx, hy, run_eql_pointer_nil w t a hp, run_neq_pointer_nil w t a hp]
theorem x_eqMapNil {o : BinOp} {t t' k e : TypeId} {x y : Operand} {a : Option Nat} {c : Bool} [H : Und P t (.map k e)] (hx : ev l x = .map a := by first | (simp only [ev, gt, put, List.set_cons_succ, List.set_cons_zero, Nat.zero_add, Nat.add_zero, Nat.mul_one, Nat.reduceAdd, Nat.reduceMul, Int.toNat_natCast, Int.reduceToNat, List.map_cons, List.map_nil, List.cons_append, List.nil_append]; exact rfl) | simp only [ev, gt, put, List.set_cons_succ, List.set_cons_zero, Nat.zero_add, Nat.add_zero, Nat.mul_one, Nat.reduceAdd, Nat.reduceMul, Int.toNat_natCast, Int.reduceToNat, List.map_cons, List.map_nil, List.cons_append, List.nil_append]) (hy : ev l y = .map none := by first | (simp only [ev, gt, put, List.set_cons_succ, List.set_cons_zero, Nat.zero_add, Nat.add_zero, Nat.mul_one, Nat.reduceAdd, Nat.reduceMul, Int.toNat_natCast, Int.reduceToNat, List.map_cons, List.map_nil, List.cons_append, List.nil_append]; exact rfl) | simp only [ev, gt, put, List.set_cons_succ, List.set_cons_zero, Nat.zero_add, Nat.add_zero, Nat.mul_one, Nat.reduceAdd, Nat.reduceMul, Int.toNat_natCast, Int.reduceToNat, List.map_cons, List.map_nil, List.cons_append, List.nil_append]) (ho : eqB o a.isNone = some c := by exact rfl) :
    Runs P l (.binOp o t x y t') ty w (.bool c) := by
  refine ⟨by simp, fun d dst pos af => ?_⟩
  cases o <;> simp only [eqB, Option.some.injEq, reduceCtorEq] at ho <;> subst ho <;> simp [execOp, eqGuard, St_eval, hx, hy, run_eql_map_nil w t k e a H.out, run_neq_map_nil w t k e a H.out]
theorem run_equalIn_func_nil {P : Program} (w : World) (d : Nat) {t : TypeId} {f : Fn} {fs cs : Array Value} [H : UndF P t] : (Op.equalIn (d + 1) t (.func f fs cs) .nilFunc).run P w = .ok false w := by
  obtain ⟨a, b, v, hu⟩ := H.out
  simp [Op.equalIn, run_underlying hu]
theorem x_eqFuncNil {o : BinOp} {t t' : TypeId} {x y : Operand} {f : Fn} {fs cs : Array Value} {c : Bool} [H : UndF P t] (hx : ev l x = .func f fs cs := by first | (simp only [ev, gt, put, List.set_cons_succ, List.set_cons_zero, Nat.zero_add, Nat.add_zero, Nat.mul_one, Nat.reduceAdd, Nat.reduceMul, Int.toNat_natCast, Int.reduceToNat, List.map_cons, List.map_nil, List.cons_append, List.nil_append]; exact rfl) | simp only [ev, gt, put, List.set_cons_succ, List.set_cons_zero, Nat.zero_add, Nat.add_zero, Nat.mul_one, Nat.reduceAdd, Nat.reduceMul, Int.toNat_natCast, Int.reduceToNat, List.map_cons, List.map_nil, List.cons_append, List.nil_append]) (hy : ev l y = .nilFunc := by first | (simp only [ev, gt, put, List.set_cons_succ, List.set_cons_zero, Nat.zero_add, Nat.add_zero, Nat.mul_one, Nat.reduceAdd, Nat.reduceMul, Int.toNat_natCast, Int.reduceToNat, List.map_cons, List.map_nil, List.cons_append, List.nil_append]; exact rfl) | simp only [ev, gt, put, List.set_cons_succ, List.set_cons_zero, Nat.zero_add, Nat.add_zero, Nat.mul_one, Nat.reduceAdd, Nat.reduceMul, Int.toNat_natCast, Int.reduceToNat, List.map_cons, List.map_nil, List.cons_append, List.nil_append]) (ho : eqB o false = some c := by exact rfl) :
    Runs P l (.binOp o t x y t') ty w (.bool c) := by
  refine ⟨by simp, fun d dst pos af => ?_⟩
  have he : (binOp .eql t (.func f fs cs) .nilFunc).run P w = .ok (.bool false) w := by
    simp only [binOp]
    simp [Op.equal, Op.maxDepth, run_equalIn_func_nil w 9999]
  have hn : (binOp .neq t (.func f fs cs) .nilFunc).run P w = .ok (.bool true) w := by
    simp only [binOp]
    simp [Op.equal, Op.maxDepth, run_equalIn_func_nil w 9999]
  cases o <;> simp only [eqB, Option.some.injEq, reduceCtorEq] at ho <;> subst ho <;> simp [execOp, eqGuard, St_eval, hx, hy, he, hn]
inductive CK | int | bool | str

def eqC : CK → Value → Value → Option Bool
  | .int, .int k a, .int k' b => if k = k' then some (a == b) else none
  | .bool, .bool a, .bool b => some (a == b)
  | .str, .string a, .string b => some (a == b)
  | _, _, _ => none
def eqL : List CK → List Value → List Value → Option Bool
  | [], [], [] => some true
  | c :: cs, x :: xs, y :: ys => match eqC c x y, eqL cs xs ys with
    | some a, some b => some (a && b)
    | _, _ => none
  | _, _, _ => none
def vOf : Bool → List Value → Value
  | true, xs => .agg xs.toArray
  | false, xs => gt xs 0

/-- '==' of a type whose cells are ints, bools, strings: cell by cell. -/
structure EqK (P : Program) (t : TypeId) (ag : Bool) (ks : List CK) (dep : Nat) : Prop where
  isag : ∀ w, (isAgg t).run P w = .ok ag w
  sz : ∀ w, (sizeOf t).run P w = .ok ks.length w
  one : ag = false → ks.length = 1
  eq : ∀ d w xs ys b, eqL ks xs ys = some b → (Op.equalIn (d + dep) t (vOf ag xs) (vOf ag ys)).run P w = .ok b w

theorem eqL_len {ks : List CK} {xs ys : List Value} {b : Bool} (h : eqL ks xs ys = some b) : xs.length = ks.length ∧ ys.length = ks.length := by
  induction ks generalizing xs ys b with
  | nil => cases xs <;> cases ys <;> simp [eqL] at h ⊢
  | cons k ks ih =>
    cases xs with
    | nil => simp [eqL] at h
    | cons x xs =>
      cases ys with
      | nil => simp [eqL] at h
      | cons y ys =>
        simp only [eqL] at h
        cases hr : eqL ks xs ys with
        | none => cases hc : eqC k x y <;> simp [hc, hr] at h
        | some c => have := ih hr; simp [this.1, this.2]

theorem EqK.scalar {t : TypeId} {c : CK} [S : Scal P t] [Z : Size P t 1] (h : ∀ d w x y b, eqC c x y = some b → (Op.equalIn (d + 1) t x y).run P w = .ok b w) : EqK P t false [c] 1 where
  isag := fun w => S.run
  sz := fun w => Z.run
  one := fun _ => rfl
  eq := fun d w xs ys b hb => by
    have hl := eqL_len hb
    cases xs with
    | nil => simp at hl
    | cons x xs =>
      cases ys with
      | nil => simp at hl
      | cons y ys =>
        simp only [List.length_cons, List.length_nil, Nat.zero_add, Nat.add_eq_right] at hl
        obtain rfl := List.eq_nil_of_length_eq_zero hl.1
        obtain rfl := List.eq_nil_of_length_eq_zero hl.2
        simp only [eqL] at hb
        refine h d w x y b ?_
        cases hc : eqC c x y <;> simp_all

inductive EqF (P : Program) : List Field → Nat → List CK → Nat → Prop
  | nil {off dep : Nat} : EqF P [] off [] dep
  | cons {f : Field} {fs : List Field} {off dep dep' : Nat} {ks ks' : List CK} {ag : Bool} (hn : (f.name == "_") = false) (ho : f.offset = off) (hk : EqK P f.type ag ks dep') (hd : dep' ≤ dep) (h : EqF P fs (off + ks.length) ks' dep) : EqF P (f :: fs) off (ks ++ ks') dep

theorem eqL_split {ks ks' : List CK} {xs ys : List Value} {b : Bool} (h : eqL (ks ++ ks') xs ys = some b) :
    ∃ xa xb ya yb b1 b2, xs = xa ++ xb ∧ ys = ya ++ yb ∧ eqL ks xa ya = some b1 ∧ eqL ks' xb yb = some b2 ∧ b = (b1 && b2) := by
  induction ks generalizing xs ys b with
  | nil => exact ⟨[], xs, [], ys, true, b, rfl, rfl, rfl, h, by simp⟩
  | cons k ks ih =>
    cases xs with
    | nil => simp [eqL] at h
    | cons x xs =>
      cases ys with
      | nil => simp [eqL] at h
      | cons y ys =>
        simp only [List.cons_append, eqL] at h
        cases hc : eqC k x y with
        | none => simp [hc] at h
        | some a =>
          cases hr : eqL (ks ++ ks') xs ys with
          | none => simp [hc, hr] at h
          | some c =>
            simp [hc, hr] at h
            obtain ⟨xa, xb, ya, yb, b1, b2, rfl, rfl, h1, h2, h3⟩ := ih hr
            exact ⟨x :: xa, xb, y :: ya, yb, a && b1, b2, rfl, rfl, by simp [eqL, hc, h1], h2, by rw [← h, h3, Bool.and_assoc]⟩

theorem part_run {t : TypeId} {ag : Bool} {ks : List CK} {dep : Nat} (hk : EqK P t ag ks dep) (pre mid post : List Value) (hm : mid.length = ks.length) (w : World) : (part t (pre ++ (mid ++ post)).toArray pre.length).run P w = .ok (vOf ag mid) w := by
  cases ag with
  | true =>
    simp only [part, Sem.run_bind, hk.isag, Result.andThen_ok, if_true, hk.sz, Sem.run_pure, vOf]
    congr 2
    rw [← hm]
    simp
  | false =>
    have h1 := hk.one rfl
    obtain ⟨x, rfl⟩ : ∃ x, mid = [x] := by
      cases mid with
      | nil => simp at hm; omega
      | cons x xs => cases xs with
        | nil => exact ⟨x, rfl⟩
        | cons y ys => simp at hm; omega
    simp [part, hk.isag, vOf, gt]

theorem EqF.run {fs : List Field} {off dep : Nat} {ks : List CK} (h : EqF P fs off ks dep) : ∀ (d : Nat) (w : World) (pre xs pre' ys : List Value) (b : Bool), pre.length = off → pre'.length = off → eqL ks xs ys = some b →
    (Op.eqFields (d + dep) (pre ++ xs).toArray (pre' ++ ys).toArray fs).run P w = .ok b w := by
  induction h with
  | nil =>
    intro d w pre xs pre' ys b _ _ hb
    cases xs <;> cases ys <;> simp only [eqL, reduceCtorEq, Option.some.injEq] at hb
    simp [Op.eqFields, hb]
  | @cons f fs off dep dep' ks ks' ag hn ho hk hd _ ih =>
    intro d w pre xs pre' ys b hp hp' hb
    obtain ⟨xa, xb, ya, yb, b1, b2, rfl, rfl, h1, h2, rfl⟩ := eqL_split hb
    have hl := eqL_len h1
    have p1 := part_run hk pre xa xb hl.1 w
    have p2 := part_run hk pre' ya yb hl.2 w
    rw [hp, ← ho] at p1
    rw [hp', ← ho] at p2
    have e1 := hk.eq (d + dep - dep') w xa ya b1 h1
    rw [show d + dep - dep' + dep' = d + dep from by omega] at e1
    have ih' := ih d w (pre ++ xa) xb (pre' ++ ya) yb b2 (by simp; omega) (by simp; omega) h2
    rw [List.append_assoc, List.append_assoc] at ih'
    have hn' : f.name ≠ "_" := by simpa using hn
    simp only [Op.eqFields, hn', ne_eq, not_false_eq_true, if_true, Sem.run_bind, p1, p2, e1, Result.andThen_ok]
    cases b1 with
    | true => simpa using ih'
    | false => simp

theorem EqK.struct {t : TypeId} {n : Nat} {fs : Array Field} {ks : List CK} {dep : Nat} [A : Aggr P t] [Z : Size P t n] (ht : P.underlying t = some (.struct fs)) (hp : P.stoodInHeld t = false) (hn : n = ks.length) (h : EqF P fs.toList 0 ks dep) : EqK P t true ks (dep + 1) where
  isag := fun w => A.run
  sz := fun w => hn ▸ Z.run
  one := fun h => by cases h
  eq := fun d w xs ys b hb => by
    have hf : P.fieldsOf t = fs := by simp [Program.fieldsOf, ht]
    have := h.run d w [] xs [] ys b rfl rfl hb
    rw [show d + (dep + 1) = d + dep + 1 from rfl]
    simp only [vOf]
    rw [run_equalIn_struct w _ t _ _ (by rw [hf]; exact ht) hp, hf]
    simpa using this

theorem EqK.int {t : TypeId} {k : IntKind} [U : Und P t (.int k)] [Scal P t] [Size P t 1] : EqK P t false [.int] 1 :=
  EqK.scalar fun d w x y b h => by
    cases x <;> cases y <;> simp only [eqC, reduceCtorEq] at h
    rename_i k1 a k2 c
    by_cases hk : k1 = k2
    · subst hk
      simp only [if_true, Option.some.injEq] at h
      rw [← h]
      exact run_equalIn_int w d t k1 k a c U.out
    · simp [hk] at h
theorem EqK.bool {t : TypeId} [U : Und P t .bool] [Scal P t] [Size P t 1] : EqK P t false [.bool] 1 :=
  EqK.scalar fun d w x y b h => by
    cases x <;> cases y <;> simp only [eqC, reduceCtorEq, Option.some.injEq] at h
    rw [← h]
    exact run_equalIn_bool w d t _ _ U.out
theorem EqK.string {t : TypeId} [U : Und P t .string] [Scal P t] [Size P t 1] : EqK P t false [.str] 1 :=
  EqK.scalar fun d w x y b h => by
    cases x <;> cases y <;> simp only [eqC, reduceCtorEq, Option.some.injEq] at h
    rw [← h, beq_toListBytes]
    exact run_equalIn_string w d t _ _ U.out

def repl {α : Type} (xs : List α) : Nat → List α
  | 0 => []
  | n + 1 => xs ++ repl xs n

theorem EqK.array {t e : TypeId} {k n : Nat} {ks : List CK} {dep : Nat} {ag : Bool} [U : Und P t (.array k e)] [A : Aggr P t] [Z : Size P t n] [Ze : Size P e ks.length] (hn : n = (repl ks k).length) (hk : EqK P e ag ks dep) : EqK P t true (repl ks k) (dep + 1) where
  isag := fun w => A.run
  sz := fun w => hn ▸ Z.run
  one := fun h => by cases h
  eq := fun d w xs ys b hb => by
    obtain ⟨i, hi, him⟩ : ∃ i, P.info? e = some i ∧ i.size = ks.length := by
      have := Ze.out
      cases hi : P.info? e with
      | none => simp [hi] at this
      | some i => exact ⟨i, rfl, by simpa [hi] using this⟩
    have hc : P.cellsOf e = ks.length := by simp [Program.cellsOf, hi, him]
    rw [show d + (dep + 1) = d + dep + 1 from rfl]
    simp only [vOf]
    rw [run_equalIn_array w _ _ _ U.out hi, hc, List.range_eq_range']
    have key : ∀ (j s : Nat) (pre xs pre' ys : List Value) (b : Bool), pre.length = s * ks.length → pre'.length = s * ks.length → eqL (repl ks j) xs ys = some b →
        (Op.eqItems (d + dep) e ks.length (pre ++ xs).toArray (pre' ++ ys).toArray (List.range' s j)).run P w = .ok b w := by
      intro j
      induction j with
      | zero =>
        intro s pre xs pre' ys b _ _ hb
        cases xs <;> cases ys <;> simp only [repl, eqL, reduceCtorEq, Option.some.injEq] at hb
        simp [Op.eqItems, hb]
      | succ j ih =>
        intro s pre xs pre' ys b hp hp' hb
        have hsm : (s + 1) * ks.length = s * ks.length + ks.length := by rw [Nat.add_mul, Nat.one_mul]
        rw [repl] at hb
        obtain ⟨xa, xb, ya, yb, b1, b2, rfl, rfl, h1, h2, rfl⟩ := eqL_split hb
        have hl := eqL_len h1
        have p1 := part_run hk pre xa xb hl.1 w
        have p2 := part_run hk pre' ya yb hl.2 w
        rw [hp] at p1
        rw [hp'] at p2
        have e1 := hk.eq d w xa ya b1 h1
        have ih' := ih (s + 1) (pre ++ xa) xb (pre' ++ ya) yb b2 (by simp; omega) (by simp; omega) h2
        rw [List.append_assoc, List.append_assoc] at ih'
        simp only [List.range'_succ, Op.eqItems, Sem.run_bind, p1, p2, e1, Result.andThen_ok]
        cases b1 with
        | true => simpa using ih'
        | false => simp
    simpa using key k 0 [] xs [] ys b (by simp) (by simp) hb
/-- Structs, arrays held against each other, by what is known of their type. -/
class EqT (P : Program) (t : TypeId) (ks : outParam (List CK)) : Prop where
  guard : P.eqGuardType P.depth t = false
  out : ∃ dep, dep ≤ 10000 ∧ EqK P t true ks dep
theorem x_eqAgg {o : BinOp} {t t' : TypeId} {x y : Operand} {ks : List CK} {xs ys : List Value} {b c : Bool} [hE : EqT P t ks] (hx : ev l x = .agg xs.toArray := by first | (simp only [ev, gt, put, List.set_cons_succ, List.set_cons_zero, Nat.zero_add, Nat.add_zero, Nat.mul_one, Nat.reduceAdd, Nat.reduceMul, Int.toNat_natCast, Int.reduceToNat, List.map_cons, List.map_nil, List.cons_append, List.nil_append]; exact rfl) | simp only [ev, gt, put, List.set_cons_succ, List.set_cons_zero, Nat.zero_add, Nat.add_zero, Nat.mul_one, Nat.reduceAdd, Nat.reduceMul, Int.toNat_natCast, Int.reduceToNat, List.map_cons, List.map_nil, List.cons_append, List.nil_append]) (hy : ev l y = .agg ys.toArray := by first | (simp only [ev, gt, put, List.set_cons_succ, List.set_cons_zero, Nat.zero_add, Nat.add_zero, Nat.mul_one, Nat.reduceAdd, Nat.reduceMul, Int.toNat_natCast, Int.reduceToNat, List.map_cons, List.map_nil, List.cons_append, List.nil_append]; exact rfl) | simp only [ev, gt, put, List.set_cons_succ, List.set_cons_zero, Nat.zero_add, Nat.add_zero, Nat.mul_one, Nat.reduceAdd, Nat.reduceMul, Int.toNat_natCast, Int.reduceToNat, List.map_cons, List.map_nil, List.cons_append, List.nil_append]) (hb : eqL ks xs ys = some b := by first | with_reducible exact e1 | with_reducible exact e2 | with_reducible exact e3 | exact rfl) (ho : eqB o b = some c := by exact rfl) :
    Runs P l (.binOp o t x y t') ty w (.bool c) := by
  refine ⟨by simp, fun d dst pos af => ?_⟩
  have hgd := fun op => run_eqGuard_agg (P := P) w op t x y xs.toArray ys.toArray hE.guard
  obtain ⟨dep, hd, hk⟩ := hE.out
  have he := hk.eq (10000 - dep) w xs ys b hb
  rw [show 10000 - dep + dep = 10000 from by omega] at he
  simp only [vOf] at he
  cases o <;> simp only [eqB, Option.some.injEq, reduceCtorEq] at ho <;> subst ho <;> simp [execOp, St_eval, hx, hy, hgd, run_eql_struct, run_neq_struct, he]

/-! ### Builtins without memory -/

theorem x_lenSlice {t e T : TypeId} {x : Operand} {a : Option Addr} {n c : Nat} [H : Und P t (.slice e)] (hx : ev l x = .slice a n c := by first | (simp only [ev, gt, put, List.set_cons_succ, List.set_cons_zero, Nat.zero_add, Nat.add_zero, Nat.mul_one, Nat.reduceAdd, Nat.reduceMul, Int.toNat_natCast, Int.reduceToNat, List.map_cons, List.map_nil, List.cons_append, List.nil_append]; exact rfl) | simp only [ev, gt, put, List.set_cons_succ, List.set_cons_zero, Nat.zero_add, Nat.add_zero, Nat.mul_one, Nat.reduceAdd, Nat.reduceMul, Int.toNat_natCast, Int.reduceToNat, List.map_cons, List.map_nil, List.cons_append, List.nil_append]) :
    Runs P l (.call { callee := .builtin .len, args := #[x], argTypes := #[t] }) T w (.int .i64 n) :=
  ⟨by simp, fun _ _ _ _ => by simp [execOp, resolve, invoke, builtin, Builtin.len_, St_eval, hx, run_underlying H.out, goInt]⟩
theorem x_lenString {t T : TypeId} {x : Operand} {s : ByteArray} [H : Und P t .string] (hx : ev l x = .string s := by first | (simp only [ev, gt, put, List.set_cons_succ, List.set_cons_zero, Nat.zero_add, Nat.add_zero, Nat.mul_one, Nat.reduceAdd, Nat.reduceMul, Int.toNat_natCast, Int.reduceToNat, List.map_cons, List.map_nil, List.cons_append, List.nil_append]; exact rfl) | simp only [ev, gt, put, List.set_cons_succ, List.set_cons_zero, Nat.zero_add, Nat.add_zero, Nat.mul_one, Nat.reduceAdd, Nat.reduceMul, Int.toNat_natCast, Int.reduceToNat, List.map_cons, List.map_nil, List.cons_append, List.nil_append]) :
    Runs P l (.call { callee := .builtin .len, args := #[x], argTypes := #[t] }) T w (.int .i64 s.size) :=
  ⟨by simp, fun _ _ _ _ => by simp [execOp, resolve, invoke, builtin, Builtin.len_, St_eval, hx, run_underlying H.out, goInt]⟩
theorem x_min {ts : Array TypeId} {T : TypeId} {x y : Operand} {k : IntKind} {a b : Int} (hx : ev l x = .int k a := by first | (simp only [ev, gt, put, List.set_cons_succ, List.set_cons_zero, Nat.zero_add, Nat.add_zero, Nat.mul_one, Nat.reduceAdd, Nat.reduceMul, Int.toNat_natCast, Int.reduceToNat, List.map_cons, List.map_nil, List.cons_append, List.nil_append]; exact rfl) | simp only [ev, gt, put, List.set_cons_succ, List.set_cons_zero, Nat.zero_add, Nat.add_zero, Nat.mul_one, Nat.reduceAdd, Nat.reduceMul, Int.toNat_natCast, Int.reduceToNat, List.map_cons, List.map_nil, List.cons_append, List.nil_append]) (hy : ev l y = .int k b := by first | (simp only [ev, gt, put, List.set_cons_succ, List.set_cons_zero, Nat.zero_add, Nat.add_zero, Nat.mul_one, Nat.reduceAdd, Nat.reduceMul, Int.toNat_natCast, Int.reduceToNat, List.map_cons, List.map_nil, List.cons_append, List.nil_append]; exact rfl) | simp only [ev, gt, put, List.set_cons_succ, List.set_cons_zero, Nat.zero_add, Nat.add_zero, Nat.mul_one, Nat.reduceAdd, Nat.reduceMul, Int.toNat_natCast, Int.reduceToNat, List.map_cons, List.map_nil, List.cons_append, List.nil_append]) :
    Runs P l (.call { callee := .builtin .min, args := #[x, y], argTypes := ts }) T w (.int k (min a b)) := by
  refine ⟨by simp, fun d dst pos af => ?_⟩
  have e : (if b < a then b else a) = min a b := by omega
  simp [execOp, resolve, invoke, builtin, Builtin.min_, Builtin.min2, St_eval, hx, hy, e]
theorem x_max {ts : Array TypeId} {T : TypeId} {x y : Operand} {k : IntKind} {a b : Int} (hx : ev l x = .int k a := by first | (simp only [ev, gt, put, List.set_cons_succ, List.set_cons_zero, Nat.zero_add, Nat.add_zero, Nat.mul_one, Nat.reduceAdd, Nat.reduceMul, Int.toNat_natCast, Int.reduceToNat, List.map_cons, List.map_nil, List.cons_append, List.nil_append]; exact rfl) | simp only [ev, gt, put, List.set_cons_succ, List.set_cons_zero, Nat.zero_add, Nat.add_zero, Nat.mul_one, Nat.reduceAdd, Nat.reduceMul, Int.toNat_natCast, Int.reduceToNat, List.map_cons, List.map_nil, List.cons_append, List.nil_append]) (hy : ev l y = .int k b := by first | (simp only [ev, gt, put, List.set_cons_succ, List.set_cons_zero, Nat.zero_add, Nat.add_zero, Nat.mul_one, Nat.reduceAdd, Nat.reduceMul, Int.toNat_natCast, Int.reduceToNat, List.map_cons, List.map_nil, List.cons_append, List.nil_append]; exact rfl) | simp only [ev, gt, put, List.set_cons_succ, List.set_cons_zero, Nat.zero_add, Nat.add_zero, Nat.mul_one, Nat.reduceAdd, Nat.reduceMul, Int.toNat_natCast, Int.reduceToNat, List.map_cons, List.map_nil, List.cons_append, List.nil_append]) :
    Runs P l (.call { callee := .builtin .max, args := #[x, y], argTypes := ts }) T w (.int k (max a b)) := by
  refine ⟨by simp, fun d dst pos af => ?_⟩
  have e : (if b > a then b else a) = max a b := by omega
  simp [execOp, resolve, invoke, builtin, Builtin.max_, Builtin.max2, St_eval, hx, hy, e]

/-! ### Slices of slices -/

/-- The base of a slice that begins i elements further on. -/
def moved (a : Option Addr) (i n cap : Nat) : Option Addr := if i = cap then a else a.map (·.add (i * n))

section
variable {t e : TypeId} {x lo hi : Operand} {a : Option Addr} {len cap n : Nat} {k k' : IntKind} {i j : Int}
theorem x_sliceH [H : Und P t (.slice e)] [Z : Size P e n] (hx : ev l x = .slice a len cap := by first | (simp only [ev, gt, put, List.set_cons_succ, List.set_cons_zero, Nat.zero_add, Nat.add_zero, Nat.mul_one, Nat.reduceAdd, Nat.reduceMul, Int.toNat_natCast, Int.reduceToNat, List.map_cons, List.map_nil, List.cons_append, List.nil_append]; exact rfl) | simp only [ev, gt, put, List.set_cons_succ, List.set_cons_zero, Nat.zero_add, Nat.add_zero, Nat.mul_one, Nat.reduceAdd, Nat.reduceMul, Int.toNat_natCast, Int.reduceToNat, List.map_cons, List.map_nil, List.cons_append, List.nil_append]) (hh : ev l hi = .int k' j := by first | (simp only [ev, gt, put, List.set_cons_succ, List.set_cons_zero, Nat.zero_add, Nat.add_zero, Nat.mul_one, Nat.reduceAdd, Nat.reduceMul, Int.toNat_natCast, Int.reduceToNat, List.map_cons, List.map_nil, List.cons_append, List.nil_append]; exact rfl) | simp only [ev, gt, put, List.set_cons_succ, List.set_cons_zero, Nat.zero_add, Nat.add_zero, Nat.mul_one, Nat.reduceAdd, Nat.reduceMul, Int.toNat_natCast, Int.reduceToNat, List.map_cons, List.map_nil, List.cons_append, List.nil_append]) (h0 : 0 ≤ j ∧ j ≤ cap := by omega) :
    Runs P l (.slice t x none (some hi) none) ty w (.slice a j.toNat cap) := by
  refine ⟨by simp, fun d dst pos af => ?_⟩
  have he : P.elem t = e := by simp [Program.elem, H.out]
  have hu : P.underlying t = some (.slice (P.elem t)) := by rw [he]; exact H.out
  have := run_slice_h w t a len cap hu k' j h0.1 h0.2
  rw [he, Z.run] at this
  have hm : (if cap = 0 then a else a.map (·.add (0 * n))) = a := by
    split
    · rfl
    · cases a <;> simp [Addr.add]
  simp [execOp, St_eval, hx, hh, run_sliceAt_slice _ _ _ _ _ _ hu, this, sliced]
  simpa using hm
theorem x_sliceHM {mx : Operand} {km : IntKind} {m : Int} [H : Und P t (.slice e)] [Z : Size P e n] (hx : ev l x = .slice a len cap := by first | (simp only [ev, gt, put, List.set_cons_succ, List.set_cons_zero, Nat.zero_add, Nat.add_zero, Nat.mul_one, Nat.reduceAdd, Nat.reduceMul, Int.toNat_natCast, Int.reduceToNat, List.map_cons, List.map_nil, List.cons_append, List.nil_append]; exact rfl) | simp only [ev, gt, put, List.set_cons_succ, List.set_cons_zero, Nat.zero_add, Nat.add_zero, Nat.mul_one, Nat.reduceAdd, Nat.reduceMul, Int.toNat_natCast, Int.reduceToNat, List.map_cons, List.map_nil, List.cons_append, List.nil_append]) (hh : ev l hi = .int k' j := by first | (simp only [ev, gt, put, List.set_cons_succ, List.set_cons_zero, Nat.zero_add, Nat.add_zero, Nat.mul_one, Nat.reduceAdd, Nat.reduceMul, Int.toNat_natCast, Int.reduceToNat, List.map_cons, List.map_nil, List.cons_append, List.nil_append]; exact rfl) | simp only [ev, gt, put, List.set_cons_succ, List.set_cons_zero, Nat.zero_add, Nat.add_zero, Nat.mul_one, Nat.reduceAdd, Nat.reduceMul, Int.toNat_natCast, Int.reduceToNat, List.map_cons, List.map_nil, List.cons_append, List.nil_append]) (hm : ev l mx = .int km m := by first | (simp only [ev, gt, put, List.set_cons_succ, List.set_cons_zero, Nat.zero_add, Nat.add_zero, Nat.mul_one, Nat.reduceAdd, Nat.reduceMul, Int.toNat_natCast, Int.reduceToNat, List.map_cons, List.map_nil, List.cons_append, List.nil_append]; exact rfl) | simp only [ev, gt, put, List.set_cons_succ, List.set_cons_zero, Nat.zero_add, Nat.add_zero, Nat.mul_one, Nat.reduceAdd, Nat.reduceMul, Int.toNat_natCast, Int.reduceToNat, List.map_cons, List.map_nil, List.cons_append, List.nil_append]) (h0 : 0 ≤ j ∧ j ≤ m ∧ m ≤ cap := by omega) :
    Runs P l (.slice t x none (some hi) (some mx)) ty w (.slice a j.toNat m.toNat) := by
  refine ⟨by simp, fun d dst pos af => ?_⟩
  have he : P.elem t = e := by simp [Program.elem, H.out]
  have hu : P.underlying t = some (.slice (P.elem t)) := by rw [he]; exact H.out
  have := run_slice_hm w t a len cap hu k' km j m h0.1 h0.2.1 h0.2.2
  rw [he, Z.run] at this
  have hm2 : (if m.toNat = 0 then a else a.map (·.add (0 * n))) = a := by
    split
    · rfl
    · cases a <;> simp [Addr.add]
  simp [execOp, St_eval, hx, hh, hm, run_sliceAt_slice _ _ _ _ _ _ hu, this, sliced]
  simpa using hm2
theorem x_sliceL [H : Und P t (.slice e)] [Z : Size P e n] (hx : ev l x = .slice a len cap := by first | (simp only [ev, gt, put, List.set_cons_succ, List.set_cons_zero, Nat.zero_add, Nat.add_zero, Nat.mul_one, Nat.reduceAdd, Nat.reduceMul, Int.toNat_natCast, Int.reduceToNat, List.map_cons, List.map_nil, List.cons_append, List.nil_append]; exact rfl) | simp only [ev, gt, put, List.set_cons_succ, List.set_cons_zero, Nat.zero_add, Nat.add_zero, Nat.mul_one, Nat.reduceAdd, Nat.reduceMul, Int.toNat_natCast, Int.reduceToNat, List.map_cons, List.map_nil, List.cons_append, List.nil_append]) (hl : ev l lo = .int k i := by first | (simp only [ev, gt, put, List.set_cons_succ, List.set_cons_zero, Nat.zero_add, Nat.add_zero, Nat.mul_one, Nat.reduceAdd, Nat.reduceMul, Int.toNat_natCast, Int.reduceToNat, List.map_cons, List.map_nil, List.cons_append, List.nil_append]; exact rfl) | simp only [ev, gt, put, List.set_cons_succ, List.set_cons_zero, Nat.zero_add, Nat.add_zero, Nat.mul_one, Nat.reduceAdd, Nat.reduceMul, Int.toNat_natCast, Int.reduceToNat, List.map_cons, List.map_nil, List.cons_append, List.nil_append]) (h0 : 0 ≤ i ∧ i ≤ len := by omega) (hc : len ≤ cap := by omega) :
    Runs P l (.slice t x (some lo) none none) ty w (.slice (moved a i.toNat n cap) (len - i.toNat) (cap - i.toNat)) := by
  refine ⟨by simp, fun d dst pos af => ?_⟩
  have he : P.elem t = e := by simp [Program.elem, H.out]
  have hu : P.underlying t = some (.slice (P.elem t)) := by rw [he]; exact H.out
  have := run_slice_l w t a len cap hu k i h0.1 h0.2
  rw [he, Z.run] at this
  simp [execOp, St_eval, hx, hl, run_sliceAt_slice _ _ _ _ _ _ hu, this, sliced, moved, eq_comm]
end

/-! ### Structs, addresses -/

theorem x_fieldAddr {t e : TypeId} {x : Operand} {b k i off n : Nat} [hf : Fld P t i off e] [hs : Size P e n] (hn : (n == 0) = false := by exact rfl) (hx : ev l x = .pointer (some ⟨b, k, none⟩) := by first | (simp only [ev, gt, put, List.set_cons_succ, List.set_cons_zero, Nat.zero_add, Nat.add_zero, Nat.mul_one, Nat.reduceAdd, Nat.reduceMul, Int.toNat_natCast, Int.reduceToNat, List.map_cons, List.map_nil, List.cons_append, List.nil_append]; exact rfl) | simp only [ev, gt, put, List.set_cons_succ, List.set_cons_zero, Nat.zero_add, Nat.add_zero, Nat.mul_one, Nat.reduceAdd, Nat.reduceMul, Int.toNat_natCast, Int.reduceToNat, List.map_cons, List.map_nil, List.cons_append, List.nil_append]) :
    Runs P l (.fieldAddr t x i) ty w (.pointer (some ⟨b, k + off, none⟩)) := by
  refine ⟨by simp, fun d dst pos af => ?_⟩
  have hf := hf.out
  cases hu : P.underlying t with
  | none => simp [hu] at hf
  | some dd =>
    cases dd <;> simp [hu] at hf
    rename_i fs
    obtain ⟨f, hf1, hf2, hf3⟩ := hf
    subst hf2 hf3
    simp [execOp, Instr.fieldAt, run_underlying hu, hf1, Instr.sureAddr, St_eval, hx, fieldPlace, hs.run, add_lit, show n ≠ 0 from by simpa using hn]


theorem x_indexAddr {t e : TypeId} {n : Nat} {x y : Operand} {b k len cap : Nat} {ik : IntKind} {i : Int} [H : Und P t (.slice e)] [hs : Size P e n] (hx : ev l x = .slice (some ⟨b, k, none⟩) len cap := by first | (simp only [ev, gt, put, List.set_cons_succ, List.set_cons_zero, Nat.zero_add, Nat.add_zero, Nat.mul_one, Nat.reduceAdd, Nat.reduceMul, Int.toNat_natCast, Int.reduceToNat, List.map_cons, List.map_nil, List.cons_append, List.nil_append]; exact rfl) | simp only [ev, gt, put, List.set_cons_succ, List.set_cons_zero, Nat.zero_add, Nat.add_zero, Nat.mul_one, Nat.reduceAdd, Nat.reduceMul, Int.toNat_natCast, Int.reduceToNat, List.map_cons, List.map_nil, List.cons_append, List.nil_append]) (hy : ev l y = .int ik i := by first | (simp only [ev, gt, put, List.set_cons_succ, List.set_cons_zero, Nat.zero_add, Nat.add_zero, Nat.mul_one, Nat.reduceAdd, Nat.reduceMul, Int.toNat_natCast, Int.reduceToNat, List.map_cons, List.map_nil, List.cons_append, List.nil_append]; exact rfl) | simp only [ev, gt, put, List.set_cons_succ, List.set_cons_zero, Nat.zero_add, Nat.add_zero, Nat.mul_one, Nat.reduceAdd, Nat.reduceMul, Int.toNat_natCast, Int.reduceToNat, List.map_cons, List.map_nil, List.cons_append, List.nil_append]) (h0 : 0 ≤ i := by omega) (h1 : i < len := by omega) :
    Runs P l (.indexAddr t x y) ty w (.pointer (some ⟨b, k + i.toNat * n, none⟩)) := by
  refine ⟨by simp, fun d dst pos af => ?_⟩
  simp [execOp, Instr.indexAt, asIntOf, run_underlying H.out, St_eval, hx, hy, h0, h1, hs.run, add_lit]
/-- What a slice holds, row by row (a row: the cells of one element). -/
structure Sl (w : World) (a : Option Addr) (cap sz : Nat) (rows : List (List Value)) : Prop where
  cap : rows.length ≤ cap
  lim : rows.length ≤ 140737488351232
  nil : a = none → rows = []
  row : ∀ p, a = some p → rows ≠ [] → ∃ b k, p = ⟨b, k, none⟩ ∧ ∀ i r, rows[i]? = some r → r.length = sz ∧ Cells w ⟨b, k + i * sz, none⟩ r

theorem Sl.at {a : Option Addr} {cap sz : Nat} {rows : List (List Value)} (h : Sl w a cap sz rows) {i : Nat} {r : List Value} (hi : rows[i]? = some r) : ∃ b k, a = some ⟨b, k, none⟩ ∧ r.length = sz ∧ Cells w ⟨b, k + i * sz, none⟩ r := by
  have hne : rows ≠ [] := by rintro rfl; simp at hi
  cases a with
  | none => exact absurd (h.nil rfl) hne
  | some p =>
    obtain ⟨b, k, rfl, h2⟩ := h.row p rfl hne
    exact ⟨b, k, rfl, (h2 i r hi).1, (h2 i r hi).2⟩

theorem Sl.goes {a : Option Addr} {cap sz : Nat} {rows : List (List Value)} (h : Sl w0 a cap sz rows) (hg : Goes w0 M Fs w) (hM : ∀ p, a = some p → rows ≠ [] → p.block ∉ M := by simp) : Sl w a cap sz rows :=
  ⟨h.cap, h.lim, h.nil, fun p hp hne => by
    obtain ⟨b, k, e, hr⟩ := h.row p hp hne
    refine ⟨b, k, e, fun i r hi => ⟨(hr i r hi).1, hg.cellsOld (hr i r hi).2 ?_⟩⟩
    have := hM p hp hne
    rw [e] at this
    exact this⟩
theorem Sl.lt {a : Option Addr} {cap sz : Nat} {rows : List (List Value)} (h : Sl w a cap sz rows) (hz : 0 < sz) {p : Addr} (hp : a = some p) (hr : rows ≠ []) : p.block < w.heap.size := by
  obtain ⟨b, k, rfl, hr'⟩ := h.row p hp hr
  obtain ⟨r, rs, rfl⟩ := List.exists_cons_of_ne_nil hr
  have := hr' 0 r rfl
  have hlt : 0 < r.length := by omega
  have h2 := this.2 0 _ (List.getElem?_eq_getElem hlt)
  rw [add_lit] at h2
  have h3 := World.block_lt_of_cell? w _ h2
  exact h3
/-- A part of a slice: its rows from the i-th on, m of them. -/
theorem Sl.part {a : Option Addr} {cap sz : Nat} {rows : List (List Value)} (h : Sl w a cap sz rows) (i m : Nat) (hi : i + m ≤ rows.length) : Sl w (moved a i sz cap) (cap - i) sz ((rows.drop i).take m) := by
  have hc := h.cap
  have hl := h.lim
  refine ⟨by simp; omega, by simp; omega, fun hn => ?_, fun p hp hne => ?_⟩
  · unfold moved at hn
    split at hn
    · simp [h.nil hn]
    · simp only [Option.map_eq_none_iff] at hn
      simp [h.nil hn]
  · have hlt : i < rows.length := by
      apply Classical.byContradiction
      intro hge
      exact hne (by simp [List.drop_eq_nil_of_le (show rows.length ≤ i by omega)])
    unfold moved at hp
    rw [if_neg (by omega)] at hp
    cases a with
    | none => simp at hp
    | some q =>
      obtain ⟨b, k, rfl, hr⟩ := h.row q rfl (by rintro rfl; simp at hlt)
      simp only [Option.map_some, Option.some.injEq, add_lit] at hp
      refine ⟨b, k + i * sz, hp.symm, fun j r hj => ?_⟩
      rw [List.getElem?_take] at hj
      split at hj
      · rw [List.getElem?_drop] at hj
        have := hr (i + j) r hj
        rw [Nat.add_mul, ← Nat.add_assoc] at this
        exact this
      · simp at hj

theorem x_indexAddrArr {t e : TypeId} {m n : Nat} {x y : Operand} {b k : Nat} {ik : IntKind} {i : Int} [H : Und P t (.array m e)] [hs : Size P e n] (hx : ev l x = .pointer (some ⟨b, k, none⟩) := by first | (simp only [ev, gt, put, List.set_cons_succ, List.set_cons_zero, Nat.zero_add, Nat.add_zero, Nat.mul_one, Nat.reduceAdd, Nat.reduceMul, Int.toNat_natCast, Int.reduceToNat, List.map_cons, List.map_nil, List.cons_append, List.nil_append]; exact rfl) | simp only [ev, gt, put, List.set_cons_succ, List.set_cons_zero, Nat.zero_add, Nat.add_zero, Nat.mul_one, Nat.reduceAdd, Nat.reduceMul, Int.toNat_natCast, Int.reduceToNat, List.map_cons, List.map_nil, List.cons_append, List.nil_append]) (hy : ev l y = .int ik i := by first | (simp only [ev, gt, put, List.set_cons_succ, List.set_cons_zero, Nat.zero_add, Nat.add_zero, Nat.mul_one, Nat.reduceAdd, Nat.reduceMul, Int.toNat_natCast, Int.reduceToNat, List.map_cons, List.map_nil, List.cons_append, List.nil_append]; exact rfl) | simp only [ev, gt, put, List.set_cons_succ, List.set_cons_zero, Nat.zero_add, Nat.add_zero, Nat.mul_one, Nat.reduceAdd, Nat.reduceMul, Int.toNat_natCast, Int.reduceToNat, List.map_cons, List.map_nil, List.cons_append, List.nil_append]) (h0 : 0 ≤ i := by omega) (h1 : i < m := by omega) :
    Runs P l (.indexAddr t x y) ty w (.pointer (some ⟨b, k + i.toNat * n, none⟩)) := by
  refine ⟨by simp, fun d dst pos af => ?_⟩
  simp [execOp, Instr.indexAt, asIntOf, run_underlying H.out, St_eval, hx, hy, h0, h1, hs.run, add_lit, Instr.sureAddr]
theorem x_indexStr {t : TypeId} {x y : Operand} {ik : IntKind} {i : Int} {s : ByteArray} {c : UInt8} [H : Und P t .string] (hx : ev l x = .string s := by first | (simp only [ev, gt, put, List.set_cons_succ, List.set_cons_zero, Nat.zero_add, Nat.add_zero, Nat.mul_one, Nat.reduceAdd, Nat.reduceMul, Int.toNat_natCast, Int.reduceToNat, List.map_cons, List.map_nil, List.cons_append, List.nil_append]; exact rfl) | simp only [ev, gt, put, List.set_cons_succ, List.set_cons_zero, Nat.zero_add, Nat.add_zero, Nat.mul_one, Nat.reduceAdd, Nat.reduceMul, Int.toNat_natCast, Int.reduceToNat, List.map_cons, List.map_nil, List.cons_append, List.nil_append]) (hy : ev l y = .int ik i := by first | (simp only [ev, gt, put, List.set_cons_succ, List.set_cons_zero, Nat.zero_add, Nat.add_zero, Nat.mul_one, Nat.reduceAdd, Nat.reduceMul, Int.toNat_natCast, Int.reduceToNat, List.map_cons, List.map_nil, List.cons_append, List.nil_append]; exact rfl) | simp only [ev, gt, put, List.set_cons_succ, List.set_cons_zero, Nat.zero_add, Nat.add_zero, Nat.mul_one, Nat.reduceAdd, Nat.reduceMul, Int.toNat_natCast, Int.reduceToNat, List.map_cons, List.map_nil, List.cons_append, List.nil_append]) (h0 : 0 ≤ i) (h1 : s[i.toNat]? = some c) :
    Runs P l (.index t x y) ty w (.int .u8 c.toNat) := by
  refine ⟨by simp, fun d dst pos af => ?_⟩
  simp [execOp, Instr.index, asIntOf, run_underlying H.out, St_eval, hx, hy, h0, h1]

/-- A struct, an array out of its parts. -/
def cellsL : Value → List Value
  | .agg a => a.toList
  | v => [v]
def splice : List Value → Nat → List Value → List Value
  | z, 0, [] => z
  | _ :: z, 0, c :: cs => c :: splice z 0 cs
  | x :: z, n + 1, cs => x :: splice z n cs
  | [], _, _ => []
def lk : List (Nat × Nat) → Nat → Option (Nat × Nat)
  | [], _ => none
  | p :: _, 0 => some p
  | _ :: ps, n + 1 => lk ps n
def fillL (pl : Nat → Option (Nat × Nat)) : List Value → List (Nat × Value) → Option (List Value)
  | z, [] => some z
  | z, (i, v) :: r =>
    match pl i with
    | none => none
    | some (off, n) => if (cellsL v).length = n ∧ off + n ≤ z.length then fillL pl (splice z off (cellsL v)) r else none

theorem lk_eq (ps : List (Nat × Nat)) (i : Nat) : ps[i]? = lk ps i := by
  induction ps generalizing i with
  | nil => simp [lk]
  | cons p ps ih => cases i <;> simp [lk, ih]
theorem cellsL_eq (v : Value) : v.cells = (cellsL v).toArray := by cases v <;> simp [Value.cells, cellsL]

theorem splice_set (cs : List Value) : ∀ (z : List Value) (off : Nat), off + cs.length ≤ z.length → ∀ k, (cs.zipIdx k).foldl (fun (a : List Value) (p : Value × Nat) => a.set (off + (p.2 - k)) p.1) z = splice z off cs := by
  induction cs with
  | nil =>
    intro z off h k
    simp only [List.zipIdx_nil, List.foldl_nil]
    induction z generalizing off with
    | nil => cases off <;> rfl
    | cons x z ih => cases off with
      | zero => rfl
      | succ n => rw [splice, ← ih n (by simp at h ⊢; omega)]
  | cons c cs ih =>
    intro z off h k
    rw [List.zipIdx_cons, List.foldl_cons]
    have e : (cs.zipIdx (k + 1)).foldl (fun (a : List Value) (p : Value × Nat) => a.set (off + (p.2 - k)) p.1) (z.set (off + (k - k)) c) = (cs.zipIdx (k + 1)).foldl (fun (a : List Value) (p : Value × Nat) => a.set (off + 1 + (p.2 - (k + 1))) p.1) (z.set off c) := by
      rw [Nat.sub_self, Nat.add_zero]
      generalize z.set off c = z'
      have : ∀ (l : List (Value × Nat)) (z' : List Value), (∀ p ∈ l, k + 1 ≤ p.2) → l.foldl (fun (a : List Value) (p : Value × Nat) => a.set (off + (p.2 - k)) p.1) z' = l.foldl (fun (a : List Value) (p : Value × Nat) => a.set (off + 1 + (p.2 - (k + 1))) p.1) z' := by
        intro l
        induction l with
        | nil => intro _ _; rfl
        | cons p l ih2 =>
          intro z' hp
          have h1 := hp p (by simp)
          rw [List.foldl_cons, List.foldl_cons, show off + (p.2 - k) = off + 1 + (p.2 - (k + 1)) from by omega]
          exact ih2 _ (fun q hq => hp q (by simp [hq]))
      refine this _ _ (fun p hp => ?_)
      have := List.le_snd_of_mem_zipIdx hp
      exact this
    rw [e, ih _ _ (by simp at h ⊢; omega) (k + 1)]
    clear e ih
    induction z generalizing off with
    | nil => simp at h
    | cons x z ih2 =>
      cases off with
      | zero =>
        simp only [List.set_cons_zero, Nat.zero_add]
        rw [splice, splice]
      | succ n =>
        simp only [List.set_cons_succ]
        rw [splice, splice, ih2 n (by simp at h ⊢; omega)]

theorem splice_length (z : List Value) (off : Nat) (cs : List Value) : (splice z off cs).length = z.length := by
  induction z generalizing off cs with
  | nil => cases off <;> cases cs <;> rfl
  | cons x z ih => cases off <;> cases cs <;> simp [splice, ih]

theorem fill_eq {place pl : Nat → Option (Nat × Nat)} (hp : ∀ i p, pl i = some p → place i = some p) : ∀ (parts : List (Nat × Value)) (z cs : List Value), fillL pl z parts = some cs → Instr.fill place z.toArray parts = some cs.toArray
  | [], z, cs, h => by simp only [fillL, Option.some.injEq] at h; simp [Instr.fill, h]
  | (i, v) :: r, z, cs, h => by
    simp only [fillL] at h
    cases hl : pl i with
    | none => simp [hl] at h
    | some p =>
      obtain ⟨off, n⟩ := p
      simp only [hl] at h
      split at h
      · rename_i hc
        have ih := fill_eq hp r _ _ h
        simp only [Instr.fill, hp i _ hl, cellsL_eq]
        have e1 : ((cellsL v).toArray.size ≠ n || off + (cellsL v).toArray.size > z.toArray.size) = false := by
          simp [hc.1]; omega
        simp only [e1, Bool.false_eq_true, if_false]
        have e2 : (cellsL v).toArray.zipIdx.foldl (fun cs (c, j) => cs.setIfInBounds (off + j) c) z.toArray = (splice z off (cellsL v)).toArray := by
          have hs := splice_set (cellsL v) z off (by omega) 0
          simp only [Nat.sub_zero] at hs
          rw [← hs]
          have ez : (cellsL v).toArray.zipIdx = ((cellsL v).zipIdx).toArray := by simp
          rw [ez, List.foldl_toArray]
          generalize (cellsL v).zipIdx = zs
          clear h ih e1 hc hl hs ez
          induction zs generalizing z with
          | nil => rfl
          | cons q zs ih3 => simp only [List.foldl_cons]; rw [← ih3]; simp
        rw [e2]; exact ih
      · cases h

class Shape (P : Program) (t : TypeId) (z : outParam (List Value)) (ps : outParam (List (Nat × Nat))) : Prop where
  out : (∀ parts, P.built t parts = Instr.fill (fun x => ps.toArray[x]?) z.toArray parts) ∨ (∃ s, (∀ i, i < ps.length → lk ps i = some (i * s, s)) ∧ ∀ parts, P.built t parts = Instr.fill (fun i => some (i * s, s)) z.toArray parts)

theorem x_build {t : TypeId} {parts : List (Nat × Operand)} {z cs : List Value} {ps : List (Nat × Nat)} {pv : List (Nat × Value)} [H : Shape P t z ps] (hv : parts.map (fun (i, x) => (i, ev l x)) = pv := by first | (simp only [ev, gt, put, List.set_cons_succ, List.set_cons_zero, Nat.zero_add, Nat.add_zero, Nat.mul_one, Nat.reduceAdd, Nat.reduceMul, Int.toNat_natCast, Int.reduceToNat, List.map_cons, List.map_nil, List.cons_append, List.nil_append]; exact rfl) | simp only [ev, gt, put, List.set_cons_succ, List.set_cons_zero, Nat.zero_add, Nat.add_zero, Nat.mul_one, Nat.reduceAdd, Nat.reduceMul, Int.toNat_natCast, Int.reduceToNat, List.map_cons, List.map_nil, List.cons_append, List.nil_append]) (hb : fillL (lk ps) z pv = some cs := by first | (simp only [fillL, lk, cellsL, List.toList_toArray, List.length_cons, List.length_nil, Nat.reduceAdd, Nat.zero_add, Nat.reduceLeDiff, Nat.le_refl, and_self, and_true, true_and, if_true, splice, splice_length]; exact rfl) | exact rfl) :
    Runs P l (.build t parts.toArray) ty w (.agg cs.toArray) := by
  refine ⟨by simp, fun d dst pos af => ?_⟩
  have hbt : P.built t pv = some cs.toArray := by
    rcases H.out with h | ⟨s, h1, h⟩
    · rw [h]; exact fill_eq (fun i p hp => by simp only [List.getElem?_toArray, lk_eq]; exact hp) _ _ _ hb
    · rw [h]
      refine fill_eq (fun i p hp => ?_) _ _ _ hb
      have hi : i < ps.length := by
        rcases Nat.lt_or_ge i ps.length with h2 | h2
        · exact h2
        · rw [← lk_eq, List.getElem?_eq_none h2] at hp; cases hp
      rw [h1 i hi] at hp; exact hp
  have := run_build (P := P) w t (parts.toArray.map fun (i, x) => (i, ev l x)) cs.toArray (by simpa [hv] using hbt)
  simp only [List.map_toArray] at this
  simp [execOp, St_eval, this]

theorem splice_mid (pre mid post cs : List Value) (h : cs.length = mid.length) : splice (pre ++ (mid ++ post)) pre.length cs = pre ++ (cs ++ post) := by
  induction pre with
  | cons x pre ih => simp only [List.cons_append, List.length_cons, splice, ih]
  | nil =>
    simp only [List.nil_append, List.length_nil]
    induction cs generalizing mid with
    | nil =>
      obtain rfl := List.eq_nil_of_length_eq_zero (by simpa using h.symm)
      cases post <;> rfl
    | cons c cs ih =>
      cases mid with
      | nil => simp at h
      | cons m mid => simp only [List.cons_append, splice, ih mid (by simpa using h)]

def rowParts : Nat → List (List Value) → List (Nat × Value)
  | _, [] => []
  | k, r :: rs => (k, .agg r.toArray) :: rowParts (k + 1) rs

theorem fill_rows (s : Nat) (rows : List (List Value)) : ∀ (k : Nat) (pre z : List Value), pre.length = k * s → z.length = rows.length * s → (∀ r ∈ rows, r.length = s) → fillL (fun i => some (i * s, s)) (pre ++ z) (rowParts k rows) = some (pre ++ rows.flatten) := by
  induction rows with
  | nil =>
    intro k pre z _ hz _
    obtain rfl := List.eq_nil_of_length_eq_zero (by simpa using hz)
    simp [rowParts, fillL]
  | cons r rs ih =>
    intro k pre z hp hz hr
    have hrl := hr r (by simp)
    have hz' : z.length = s + rs.length * s := by rw [hz, List.length_cons, Nat.add_mul]; omega
    have hsp := splice_mid pre (z.take s) (z.drop s) r (by rw [List.length_take]; omega)
    rw [List.take_append_drop, hp] at hsp
    simp only [rowParts, fillL, cellsL, List.toList_toArray, hrl, hsp]
    rw [if_pos ⟨trivial, by rw [List.length_append]; omega⟩]
    have := ih (k + 1) (pre ++ r) (z.drop s) (by rw [List.length_append, hp, hrl, Nat.add_mul]; omega) (by rw [List.length_drop]; omega) (fun q hq => hr q (by simp [hq]))
    rw [List.append_assoc] at this
    rw [this]
    simp

theorem repl_get (zs : List Value) (n : Nat) (h0 : 0 < zs.length) : ∀ i, i < n * zs.length → (repl zs n)[i]? = zs[i % zs.length]? := by
  induction n with
  | zero => intro i hi; simp at hi
  | succ n ih =>
    intro i hi
    rw [repl]
    by_cases h : i < zs.length
    · rw [List.getElem?_append_left h, Nat.mod_eq_of_lt h]
    · rw [List.getElem?_append_right (by omega), ih _ (by rw [Nat.add_mul] at hi; omega), ← Nat.mod_eq_sub_mod (by omega)]
theorem repl_len (zs : List Value) (n : Nat) : (repl zs n).length = n * zs.length := by
  induction n with
  | zero => simp [repl]
  | succ n ih => rw [repl, List.length_append, ih, Nat.add_mul]; omega

/-- A slice literal, row by row. -/
theorem op_buildRows {t e : TypeId} {n s : Nat} {parts : List (Nat × Operand)} {zs : List Value} {rows : List (List Value)} [H : Und P t (.slice e)] [Z : Zero P e zs] [S : Size P e s]
    (hv : parts.map (fun (i, x) => (i, ev l x)) = rowParts 0 rows) (hn : rows.length = n) (hr : ∀ r ∈ rows, r.length = s) (hzs : zs.length = s) (hpos : (n * s == 0) = false) (hsm : n * s ≤ 16777216) (hg : Goes w0 M Fs w)
    (h : ∀ b w', Goes w0 M ([(b, .cells rows.flatten.toArray e (0, 0))] :: Fs) w' → WO P r ops Q os (put l dst (.slice (some ⟨b, 0, none⟩) n n)) d w') :
    WO P r ops Q (⟨dst, .buildSlice t n parts.toArray, ty, pos, af, none⟩ :: os) l d w := by
  have hzo := Z.out
  have hso := S.out
  cases hi : P.info? e with
  | none => simp [hi] at hzo
  | some ie =>
    simp [hi] at hzo hso
    obtain ⟨z, hz, hzc⟩ := hzo
    have hp : 0 < s := by rcases Nat.eq_zero_or_pos s with h | h <;> simp_all
    have hzr : ((Array.range (n * s)).map (z.cells[· % z.cells.size]!)) = (repl zs n).toArray := by
      have hcs : z.cells = zs.toArray := by rw [← hzc]
      apply Array.ext'
      apply List.ext_getElem?
      intro i
      simp only [hcs, Array.toList_map, Array.toList_range, List.getElem?_map]
      rcases Nat.lt_or_ge i (n * s) with hlt | hge
      · rw [repl_get zs n (by omega) i (by rw [hzs]; exact hlt), List.getElem?_range hlt]
        have hm : i % zs.length < zs.length := Nat.mod_lt _ (by omega)
        simp [hm]
      · rw [List.getElem?_eq_none (l := List.range (n * s)) (by simpa using hge), List.getElem?_eq_none (by rw [repl_len, hzs]; exact hge)]
        rfl
    have hf := fill_rows s rows 0 [] (repl zs n) (by simp) (by rw [repl_len, hzs, hn]) hr
    rw [List.nil_append, List.nil_append, ← hv] at hf
    have hf2 := fill_eq (place := fun i => some (i * s, s)) (fun i p hp => hp) _ _ _ hf
    have hrun := run_buildSlice (P := P) w t e n (parts.toArray.map fun (i, x) => (i, ev l x)) rows.flatten.toArray ie z H.out hi hz (by rw [hso]; omega) (by rw [hso]; simpa using hpos) (by rw [hso, hzr]; simpa using hf2)
    simp only [List.map_toArray] at hrun
    refine WO.val (by simp) ?_ rfl (h w.heap.size _ (hg.alloc _))
    simp [execOp, St_eval, hrun]

theorem rows_get (s : Nat) (rows : List (List Value)) (hr : ∀ r ∈ rows, r.length = s) : ∀ (i j : Nat) (r : List Value) (v : Value), rows[i]? = some r → r[j]? = some v → rows.flatten[i * s + j]? = some v := by
  induction rows with
  | nil => intro i j r v h; simp at h
  | cons q rs ih =>
    intro i j r v h hj
    have hq := hr q (by simp)
    rw [List.flatten_cons]
    cases i with
    | zero =>
      simp at h
      subst h
      rw [Nat.zero_mul, Nat.zero_add, List.getElem?_append_left (by exact (List.getElem?_eq_some_iff.1 hj).1)]
      exact hj
    | succ i =>
      have := ih (fun x hx => hr x (by simp [hx])) i j r v (by simpa using h) hj
      rw [List.getElem?_append_right (by rw [hq, Nat.add_mul]; omega), hq, show (i + 1) * s + j - s = i * s + j from by rw [Nat.add_mul]; omega]
      exact this

theorem Has.sl {b cap s : Nat} {t : TypeId} {z : Nat × Nat} {rows : List (List Value)} (h : Has b (.cells rows.flatten.toArray t z) Fs) (hg : Goes w0 M Fs w) (hr : ∀ r ∈ rows, r.length = s) (hc : rows.length ≤ cap) (hl : rows.length ≤ 140737488351232) : Sl w (some ⟨b, 0, none⟩) cap s rows :=
  ⟨hc, hl, by simp, fun p hp _ => by
    obtain rfl := Option.some.inj hp
    refine ⟨b, 0, rfl, fun i r hi => ⟨hr r (List.mem_of_getElem? hi), fun j v hj => ?_⟩⟩
    rw [add_lit]
    refine h.cell hg ?_
    simpa using rows_get s rows hr i j r v hi hj⟩

theorem x_extract {x : Operand} {i : Nat} {vs : List Value} (hx : ev l x = .tuple vs.toArray := by first | (simp only [ev, gt, put, List.set_cons_succ, List.set_cons_zero, Nat.zero_add, Nat.add_zero, Nat.mul_one, Nat.reduceAdd, Nat.reduceMul, Int.toNat_natCast, Int.reduceToNat, List.map_cons, List.map_nil, List.cons_append, List.nil_append]; exact rfl) | simp only [ev, gt, put, List.set_cons_succ, List.set_cons_zero, Nat.zero_add, Nat.add_zero, Nat.mul_one, Nat.reduceAdd, Nat.reduceMul, Int.toNat_natCast, Int.reduceToNat, List.map_cons, List.map_nil, List.cons_append, List.nil_append]) (hv : vs[i]? = some v := by exact rfl) :
    Runs P l (.extract x i) ty w v :=
  ⟨by simp, fun _ _ _ _ => by simp [execOp, Instr.extract, St_eval, hx, hv]⟩
theorem x_makeFunc {fn : Fn} {fs cs : List Operand} {vs us : List Value} (h1 : fs.map (ev l) = vs := by first | (simp only [ev, gt, put, List.set_cons_succ, List.set_cons_zero, Nat.zero_add, Nat.add_zero, Nat.mul_one, Nat.reduceAdd, Nat.reduceMul, Int.toNat_natCast, Int.reduceToNat, List.map_cons, List.map_nil, List.cons_append, List.nil_append]; exact rfl) | simp only [ev, gt, put, List.set_cons_succ, List.set_cons_zero, Nat.zero_add, Nat.add_zero, Nat.mul_one, Nat.reduceAdd, Nat.reduceMul, Int.toNat_natCast, Int.reduceToNat, List.map_cons, List.map_nil, List.cons_append, List.nil_append]) (h2 : cs.map (ev l) = us := by first | (simp only [ev, gt, put, List.set_cons_succ, List.set_cons_zero, Nat.zero_add, Nat.add_zero, Nat.mul_one, Nat.reduceAdd, Nat.reduceMul, Int.toNat_natCast, Int.reduceToNat, List.map_cons, List.map_nil, List.cons_append, List.nil_append]; exact rfl) | simp only [ev, gt, put, List.set_cons_succ, List.set_cons_zero, Nat.zero_add, Nat.add_zero, Nat.mul_one, Nat.reduceAdd, Nat.reduceMul, Int.toNat_natCast, Int.reduceToNat, List.map_cons, List.map_nil, List.cons_append, List.nil_append]) :
    Runs P l (.makeFunc fn fs.toArray cs.toArray) ty w (.func fn vs.toArray us.toArray) := by
  refine ⟨by simp, fun d dst pos af => ?_⟩
  have : (St l d).eval = ev l := funext (St_eval l d)
  simp [execOp, Instr.makeFunc, this, h1, h2]

/-! ### Calls -/

theorem op_call {f : FuncId} {fn : Func} {as : List Operand} {vs : List Value} {ts : Array TypeId} {T : TypeId} {R : Ending → World → Prop} [H : Fun P f fn] (hc : Calls P f vs.toArray w R) (h : ∀ e w'', R e w'' → ∃ v, e = .returned v ∧ WO P r ops Q os (put l dst v) d w'') (ha : as.map (ev l) = vs := by first | (simp only [ev, gt, put, List.set_cons_succ, List.set_cons_zero, Nat.zero_add, Nat.add_zero, Nat.mul_one, Nat.reduceAdd, Nat.reduceMul, Int.toNat_natCast, Int.reduceToNat, List.map_cons, List.map_nil, List.cons_append, List.nil_append]; exact rfl) | simp only [ev, gt, put, List.set_cons_succ, List.set_cons_zero, Nat.zero_add, Nat.add_zero, Nat.mul_one, Nat.reduceAdd, Nat.reduceMul, Int.toNat_natCast, Int.reduceToNat, List.map_cons, List.map_nil, List.cons_append, List.nil_append]) :
    WO P r ops Q (⟨dst, .call { callee := .value (.func f), args := as.toArray, argTypes := ts }, T, pos, af, none⟩ :: os) l d w := by
  refine WO.enter (by simp) ?_ hc h
  have : (St l d).eval = ev l := funext (St_eval l d)
  have e : (callFunc f vs.toArray).run P w = .ok (.enter f vs.toArray) w := by simp only [callFunc, Sem.run_bind, run_program, Result.andThen_ok, H.out, H.named, H.body, Bool.false_eq_true, if_false]; rfl
  simp [execOp, resolve, this, ev, Deferred.ofValue, invoke, ha, e]
theorem op_callV {x : Operand} {f : FuncId} {fn : Func} {fs cs : List Value} {as : List Operand} {vs : List Value} {ts : Array TypeId} {T : TypeId} {R : Ending → World → Prop} [H : Fun P f fn] (hc : Calls P f vs.toArray w R) (h : ∀ e w'', R e w'' → ∃ v, e = .returned v ∧ WO P r ops Q os (put l dst v) d w'') (hx : ev l x = .func (.func f) fs.toArray cs.toArray := by first | (simp only [ev, gt, put, List.set_cons_succ, List.set_cons_zero, Nat.zero_add, Nat.add_zero, Nat.mul_one, Nat.reduceAdd, Nat.reduceMul, Int.toNat_natCast, Int.reduceToNat, List.map_cons, List.map_nil, List.cons_append, List.nil_append]; exact rfl) | simp only [ev, gt, put, List.set_cons_succ, List.set_cons_zero, Nat.zero_add, Nat.add_zero, Nat.mul_one, Nat.reduceAdd, Nat.reduceMul, Int.toNat_natCast, Int.reduceToNat, List.map_cons, List.map_nil, List.cons_append, List.nil_append]) (ha : fs ++ as.map (ev l) ++ cs = vs := by first | (simp only [ev, gt, put, List.set_cons_succ, List.set_cons_zero, Nat.zero_add, Nat.add_zero, Nat.mul_one, Nat.reduceAdd, Nat.reduceMul, Int.toNat_natCast, Int.reduceToNat, List.map_cons, List.map_nil, List.cons_append, List.nil_append]; exact rfl) | simp only [ev, gt, put, List.set_cons_succ, List.set_cons_zero, Nat.zero_add, Nat.add_zero, Nat.mul_one, Nat.reduceAdd, Nat.reduceMul, Int.toNat_natCast, Int.reduceToNat, List.map_cons, List.map_nil, List.cons_append, List.nil_append]) :
    WO P r ops Q (⟨dst, .call { callee := .value x, args := as.toArray, argTypes := ts }, T, pos, af, none⟩ :: os) l d w := by
  refine WO.enter (by simp) ?_ hc h
  have : (St l d).eval = ev l := funext (St_eval l d)
  have ha' : fs.toArray ++ (as.map (ev l)).toArray ++ cs.toArray = vs.toArray := by rw [← ha]; simp
  have e : ∀ as', (callFunc f as').run P w = .ok (.enter f as') w := fun as' => by simp only [callFunc, Sem.run_bind, run_program, Result.andThen_ok, H.out, H.named, H.body, Bool.false_eq_true, if_false]; rfl
  simp only [execOp, resolve, this, hx, Deferred.ofValue, invoke, List.map_toArray, Sem.run_bind, Sem.run_pure, Result.andThen_ok, e]
  rw [ha']

/-- A callee that leaves all that lay there as it was. -/
theorem op_pure {f : FuncId} {fn : Func} {as : List Operand} {vs : List Value} {ts : Array TypeId} {T : TypeId} [H : Fun P f fn] (hg : Goes w0 M Fs w) (h : ∀ w', Goes w0 M Fs w' → WO P r ops Q os (put l dst v) d w') (ha : as.map (ev l) = vs := by first | (simp only [ev, gt, put, List.set_cons_succ, List.set_cons_zero, Nat.zero_add, Nat.add_zero, Nat.mul_one, Nat.reduceAdd, Nat.reduceMul, Int.toNat_natCast, Int.reduceToNat, List.map_cons, List.map_nil, List.cons_append, List.nil_append]; exact rfl) | simp only [ev, gt, put, List.set_cons_succ, List.set_cons_zero, Nat.zero_add, Nat.add_zero, Nat.mul_one, Nat.reduceAdd, Nat.reduceMul, Int.toNat_natCast, Int.reduceToNat, List.map_cons, List.map_nil, List.cons_append, List.nil_append])
    (hc : Calls P f vs.toArray w (fun e w' => e = .returned v ∧ Goes w [] [] w') := by first | with_reducible exact p1 hg | with_reducible exact p2 hg | with_reducible exact p3 hg | with_reducible exact p4 hg | with_reducible exact p5 hg | with_reducible exact p6 hg | with_reducible exact p7 hg | with_reducible exact p8 hg | with_reducible exact p1 .. | with_reducible exact p2 .. | with_reducible exact p3 .. | with_reducible exact p4 .. | with_reducible exact p5 .. | with_reducible exact p6 .. | with_reducible exact p7 .. | with_reducible exact p8 ..) :
    WO P r ops Q (⟨dst, .call { callee := .value (.func f), args := as.toArray, argTypes := ts }, T, pos, af, none⟩ :: os) l d w :=
  op_call hc (by rintro e w' ⟨rfl, h2⟩; exact ⟨_, rfl, h _ (hg.call00 h2)⟩) ha
/-- A comparison that is not decided: both cases apart. -/
theorem WO.xS {o : BinOp} {t s : TypeId} {x y : Operand} {k ki : IntKind} {a b : Int} {c : Bool} [CmpO o] [Und P t (.int ki)]
    (h : ∀ e, c = e → WO P r ops Q os (put l dst (.bool e)) d w) (hx : ev l x = .int k a := by first | (simp only [ev, gt, put, List.set_cons_succ, List.set_cons_zero, Nat.zero_add, Nat.add_zero, Nat.mul_one, Nat.reduceAdd, Nat.reduceMul, Int.toNat_natCast, Int.reduceToNat, List.map_cons, List.map_nil, List.cons_append, List.nil_append]; exact rfl) | simp only [ev, gt, put, List.set_cons_succ, List.set_cons_zero, Nat.zero_add, Nat.add_zero, Nat.mul_one, Nat.reduceAdd, Nat.reduceMul, Int.toNat_natCast, Int.reduceToNat, List.map_cons, List.map_nil, List.cons_append, List.nil_append]) (hy : ev l y = .int k b := by first | (simp only [ev, gt, put, List.set_cons_succ, List.set_cons_zero, Nat.zero_add, Nat.add_zero, Nat.mul_one, Nat.reduceAdd, Nat.reduceMul, Int.toNat_natCast, Int.reduceToNat, List.map_cons, List.map_nil, List.cons_append, List.nil_append]; exact rfl) | simp only [ev, gt, put, List.set_cons_succ, List.set_cons_zero, Nat.zero_add, Nat.add_zero, Nat.mul_one, Nat.reduceAdd, Nat.reduceMul, Int.toNat_natCast, Int.reduceToNat, List.map_cons, List.map_nil, List.cons_append, List.nil_append]) (ho : cmpB o a b = some c := by exact rfl) : WO P r ops Q (⟨dst, .binOp o t x y s, ty, pos, af, none⟩ :: os) l d w :=
  WO.x (h _ rfl) (x_cmp (ki := ki) hx hy ho) rfl

end

/-! ## A function's body -/

/-- Where a body ends. -/
def Ends (P : Program) (fn : Func) (R : Ending → World → Prop) : Exit → Act → World → Prop := bodyPost P fn R

theorem enter {P : Program} {f : FuncId} {fn : Func} {c : Code} {args : List Value} {l : List Value} {w : World} {R : Ending → World → Prop} (hf : P.funcs[f]? = some fn) (hb : fn.body = some c)
    (hl : args ++ List.replicate (fn.ntmps - args.length) undef = l) (h : WC P none c (bodyPost P fn R) l [] w) : Calls P f args.toArray w R := by
  have hc := callsIn_of_wp (F := Fr none) (n := 0) (args := args.toArray) (w := w) (R := R) hf hb trivial (by
    have : args.toArray ++ Array.replicate (fn.ntmps - args.toArray.size) undef = l.toArray := by rw [← hl]; simp
    rw [this]; exact h.out) rfl
  exact calls_fr hc

section
variable {P : Program} {fn : Func} {R : Ending → World → Prop} {l : List Value} {w : World} {v : Value}

/-- What a function's results hold: a slot, a variable in memory. -/
inductive ResOf (P : Program) (l : List Value) (w : World) : List ResultVar → List Value → Prop
  | nil : ResOf P l w [] []
  | tmp {t : Tmp} {rs : List ResultVar} {v : Value} {vs : List Value} (hv : gt l t = v) (h : ResOf P l w rs vs) : ResOf P l w (.tmp t :: rs) (v :: vs)
  | cell {t : Tmp} {ty : TypeId} {rs : List ResultVar} {a : Addr} {v : Value} {vs : List Value} (hs : Scal P ty) (ha : gt l t = .pointer (some a)) (hc : w.cell? a = some v) (h : ResOf P l w rs vs) : ResOf P l w (.cell t ty :: rs) (v :: vs)
  | agg {t : Tmp} {ty : TypeId} {n : Nat} {rs : List ResultVar} {a : Addr} {cs : List Value} {vs : List Value} (hs : Aggr P ty) (hz : Size P ty n) (ha : gt l t = .pointer (some a)) (hc : Cells w a cs) (hn : cs.length = n) (h : ResOf P l w rs vs) : ResOf P l w (.cell t ty :: rs) (.agg cs.toArray :: vs)

theorem ResOf.cells {t : Tmp} {ty : TypeId} {n : Nat} {rs : List ResultVar} {a : Addr} {cs : List Value} {vs : List Value} [hs : Aggr P ty] [hz : Size P ty n] (ha : gt l t = .pointer (some a)) (hc : Ldn w a n cs) (h : ResOf P l w rs vs) : ResOf P l w (.cell t ty :: rs) (.agg cs.toArray :: vs) :=
  .agg hs hz ha hc.1 hc.2 h
theorem ResOf.one {t : Tmp} {ty : TypeId} {rs : List ResultVar} {a : Addr} {v : Value} {vs : List Value} [hs : Scal P ty] (ha : gt l t = .pointer (some a)) (hc : w.cell? a = some v) (h : ResOf P l w rs vs) : ResOf P l w (.cell t ty :: rs) (v :: vs) :=
  .cell hs ha hc h

def mkRes : List Value → Value
  | [v] => v
  | vs => .tuple vs.toArray

def resOne (tm : Array Value) : ResultVar → Sem Value
  | .tmp t => pure (tm.getD t undef)
  | .cell a t => do loadVar t (← asAddr (tm.getD a undef))

theorem results_eq (tm : Array Value) : results fn tm = (do let vs ← fn.results.mapM (resOne tm); pure (if h : vs.size = 1 then vs[0] else .tuple vs)) := by
  unfold results
  congr 1

theorem ResOf.go {rs : List ResultVar} {vs : List Value} (h : ResOf P l w rs vs) : (rs.mapM (resOne l.toArray)).run P w = .ok vs w := by
  have ge : ∀ t, l.toArray.getD t undef = gt l t := fun t => by rw [← gt_eq]; simp
  induction h with
  | nil => simp
  | @tmp t rs v vs hv _ ih =>
    have e : (resOne l.toArray (.tmp t)).run P w = .ok v w := by simp only [resOne, ge, hv, Sem.run_pure]
    simp only [List.mapM_cons, Sem.run_bind, e, Result.andThen_ok, ih, Sem.run_pure]
  | @cell t ty rs a v vs hs ha hc _ ih =>
    have e : (resOne l.toArray (.cell t ty)).run P w = .ok v w := by simp only [resOne, ge, ha, asAddr, Sem.run_bind, Sem.run_pure, Result.andThen_ok, loadVar, hs.run, Bool.false_eq_true, if_false, run_load, hc]
    simp only [List.mapM_cons, Sem.run_bind, e, Result.andThen_ok, ih, Sem.run_pure]
  | @agg t ty n rs a cs vs hs hz ha hc hn _ ih =>
    have hl := run_loadCells_list (P := P) w a cs hc
    rw [hn] at hl
    have e : (resOne l.toArray (.cell t ty)).run P w = .ok (.agg cs.toArray) w := by simp only [resOne, ge, ha, asAddr, Sem.run_bind, Sem.run_pure, Result.andThen_ok, loadVar, hs.run, hz.run, if_true, hl]
    simp only [List.mapM_cons, Sem.run_bind, e, Result.andThen_ok, ih, Sem.run_pure]

theorem ResOf.run {vs : List Value} (h : ResOf P l w fn.results.toList vs) : (results fn l.toArray).run P w = .ok (mkRes vs) w := by
  rw [results_eq, Array.mapM_eq_mapM_toList]
  simp only [Sem.run_bind, Sem.run_map, h.go, Result.andThen_ok, Sem.run_pure]
  congr 1
  cases vs with
  | nil => simp [mkRes]
  | cons v vs => cases vs <;> simp [mkRes]

theorem ret {vs : List Value} (hr : ResOf P l w fn.results.toList vs) (h : R (.returned (mkRes vs)) w) : bodyPost P fn R .ret (St l []) w := ⟨rfl, _, hr.run, h⟩
theorem ret0 (hr : fn.results = #[]) (h : R (.returned (.tuple #[])) w) : bodyPost P fn R .ret (St l []) w := ⟨rfl, _, results_none hr _ _ _, h⟩
theorem ret1 {t : Tmp} (hr : fn.results = #[.tmp t]) (h : R (.returned (gt l t)) w) : bodyPost P fn R .ret (St l []) w := ⟨rfl, _, results_tmp hr _ _ _, by simpa [gt_eq] using h⟩
theorem ret2 {t u : Tmp} (hr : fn.results = #[.tmp t, .tmp u]) (h : R (.returned (.tuple #[gt l t, gt l u])) w) : bodyPost P fn R .ret (St l []) w := ⟨rfl, _, results_tmp2 hr _ _ _, by simpa [gt_eq] using h⟩
theorem end0 (hr : fn.results = #[]) (h : R (.returned (.tuple #[])) w) : bodyPost P fn R .normal (St l []) w := ⟨rfl, _, results_none hr _ _ _, h⟩
end
end Go.Proofs.YtkdidefghbeabaaGreat
