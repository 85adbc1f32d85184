/- Regions that draw their order, some of whose operations turn the world: operations that look at no world are taken first, one at a time; one that is alone to be ready is carried out. -/
import Derived.Test.YtaamnccgciepbaaLoops
namespace Go.Proofs.Ytaamnccgciepbaa
open Go Go.RowKit
set_option linter.unusedSimpArgs false
set_option linter.unusedVariables false

/-- A postcondition that lets no panic through. -/
def NQ (Q : Exit → Act → World → Prop) : Exit → Act → World → Prop := fun x a w => x = .normal ∧ Q .normal a w
structure WA (P : Program) (ops : Array Oper) (Q : Exit → Act → World → Prop) (fuel : Nat) (listed : List Bool) (l : List Value) (d : List Deferred) (w : World) : Prop where
  out : wpAnyIn (Fr none) 0 P .any ops (NQ Q) fuel listed.toArray (St l d) w
/-- .. behind one operation. -/
def KA (P : Program) (ops : Array Oper) (Q : Exit → Act → World → Prop) (fuel : Nat) (listed : List Bool) : Exit → Act → World → Prop :=
  fun x a w => x = .normal ∧ wpAnyIn (Fr none) 0 P .any ops (NQ Q) fuel listed.toArray a w

section
variable {P : Program} {Q : Exit → Act → World → Prop} {l l' : List Value} {d : List Deferred} {w w0 : World} {M : List Nat} {Fs : List Frag} {fuel : Nat} {listed listed' : List Bool}
variable {ops : Array Oper} {os : List Oper} {dst : Option Tmp} {ty : TypeId} {pos : String} {af : Array Edge} {v : Value}

theorem wpIn_noPanic {F : Fence} {n : Nat} {o : Oper} {a : Act} {w : World} {N : Act → World → Prop} {Q : Exit → Act → World → Prop} (hh : o.wpIn F n P a w (fun a w => Exit.normal = .normal ∧ N a w) (fun x a w => x = .normal ∧ N a w)) : o.wpIn F n P a w N Q := by
  unfold Oper.wpIn at *
  refine ⟨hh.1, ?_⟩
  have hh := hh.2
  generalize (o.semAt F.round a.eval).run P w = r at *
  cases r with
  | ok x w' =>
    cases x <;> simp only [Oper.uponIn] at hh ⊢ <;>
      first
        | exact hh.2
        | exact hh
        | exact ⟨hh.1, CallsIn.mono hh.2 (fun e w'' he => by cases e <;> first | exact he.2 | exact absurd he.1 (by simp) | (obtain ⟨_, _, h, _⟩ := he; cases h))⟩
        | exact ⟨hh.1, RowsIn.mono hh.2 (fun _ _ he => he.2)⟩
        | exact ⟨hh.1, RoundIn.mono hh.2 (fun e w'' he => by cases e <;> first | exact he.2 | exact absurd he.1 (by simp) | (obtain ⟨_, _, h, _⟩ := he; cases h))⟩
  | halt x w' => cases x <;> simp only [Oper.uponIn] at hh ⊢ <;> first | exact hh | exact absurd hh.1 (by simp)

theorem WC.drawn {id : Nat} (hg : Goes w0 M Fs w) (h : ∀ w', Goes w0 M Fs w' → WA P os.toArray Q os.length (List.replicate os.length false) l d w') (hm : P.follows .mixedOrders = true := by kernel_rfl) :
    WC P none (.region id os.toArray true) Q l d w := by
  refine ⟨Go.wpIn_mono (Q := NQ Q) (wpIn_region_any hm ?_) (fun e a w q => by cases q.1; exact q.2)⟩
  have := (h _ hg.drew).out
  simpa using this

theorem WA.nil (h : Q .normal (St l d) w) (hr : Region.ready .any ops listed.toArray = [] := by kernel_rfl) : WA P ops Q fuel listed l d w := ⟨wpAnyIn_done hr ⟨rfl, h⟩ fuel⟩
theorem WA.frame (h : WA P ops Q fuel listed l' d w) (hl : l = l' := by first | (simp only [ev, gt, put, List.set_cons_succ, List.set_cons_zero, Nat.zero_add, Nat.add_zero, Nat.mul_one, Nat.reduceAdd, Nat.reduceMul, Int.toNat_natCast, Int.reduceToNat, List.map_cons, List.map_nil, List.cons_append, List.nil_append]; exact rfl) | simp only [ev, gt, put, List.set_cons_succ, List.set_cons_zero, Nat.zero_add, Nat.add_zero, Nat.mul_one, Nat.reduceAdd, Nat.reduceMul, Int.toNat_natCast, Int.reduceToNat, List.map_cons, List.map_nil, List.cons_append, List.nil_append]) : WA P ops Q fuel listed l d w := hl ▸ h

theorem nq_put {Q : Exit → Act → World → Prop} {dst : Option Tmp} {v : Value} : ∀ c a w, NQ Q (.panic c) (a.put dst v) w → NQ Q (.panic c) a w := fun c a w h => absurd h.1 (by simp)

/-- An operation that looks at no world. -/
theorem WA.pass (i : Nat) {op : Op} (h : WA P ops Q fuel (listed.set i true) l' d w) (ho : ops[i]? = some ⟨dst, op, ty, pos, af, none⟩ := by exact rfl) (hx : ∀ w, Runs P l op ty w v := by intro w; first | ((with_reducible apply is_move); exact x_move) | ((with_reducible apply is_assign); exact x_assign) | ((with_reducible apply is_load); first | exact x_load | exact x_loadA) | ((with_reducible apply is_bin); first | exact x_cmp | exact x_arith | exact x_eqBool | exact x_eqStr | exact x_eqPtrNil | exact x_eqMapNil | exact x_eqSliceNil | exact x_eqAgg | exact x_quo | exact x_rem | exact x_addStr) | ((with_reducible apply is_fieldAddr); exact x_fieldAddr) | ((with_reducible apply is_indexAddr); first | exact x_indexAddr | exact x_indexAddrArr) | ((with_reducible apply is_field); first | exact x_field1 | exact x_fieldA) | ((with_reducible apply is_un); first | exact x_not | exact x_neg) | ((with_reducible apply is_pick); exact x_pick) | ((with_reducible apply is_builtin); first | exact x_lenSlice | exact x_lenString | exact x_min | exact x_max) | ((with_reducible apply is_extract); exact x_extract) | ((with_reducible apply is_nilCheck); exact x_nilCheck) | ((with_reducible apply is_makeFunc); exact x_makeFunc) | ((with_reducible apply is_build); exact x_build) | ((with_reducible apply is_convert); exact x_convInt) | ((with_reducible apply is_index); exact x_indexArr) | ((with_reducible apply is_slice); first | exact x_sliceLH | exact x_sliceH | exact x_sliceL)) (hl : put l dst v = l' := by first | (simp only [ev, gt, put, List.set_cons_succ, List.set_cons_zero, Nat.zero_add, Nat.add_zero, Nat.mul_one, Nat.reduceAdd, Nat.reduceMul, Int.toNat_natCast, Int.reduceToNat, List.map_cons, List.map_nil, List.cons_append, List.nil_append]; exact rfl) | simp only [ev, gt, put, List.set_cons_succ, List.set_cons_zero, Nat.zero_add, Nat.add_zero, Nat.mul_one, Nat.reduceAdd, Nat.reduceMul, Int.toNat_natCast, Int.reduceToNat, List.map_cons, List.map_nil, List.cons_append, List.nil_append])
    (hb : ∀ w, Oper.about P w (St l d).eval ⟨dst, op, ty, pos, af, none⟩ = none := by intro w; exact rfl)
    (hs : Region.noSelect ops = true := by kernel_rfl) (hf : Region.free .any ops listed.toArray i = true := by kernel_rfl) (hr : (Region.ready .any ops listed.toArray).contains i = true := by kernel_rfl) :
    WA P ops Q (fuel + 1) listed l d w := by
  refine ⟨wpAnyIn_take rfl ho hs hf hr nq_put (v := v) ⟨.inl ⟨rfl, fun w => (hx w).out d dst pos af⟩, hb⟩ ?_⟩
  have := h.out
  rw [← hl, ← St_put] at this
  simpa using this
/-- The only one that is ready. -/
theorem WA.only (i : Nat) {op : Op} (h : WO P none ops (KA P ops Q fuel (listed.set i true)) [⟨dst, op, ty, pos, af, none⟩] l d w) (ho : ops[i]? = some ⟨dst, op, ty, pos, af, none⟩ := by exact rfl) (hr : Region.ready .any ops listed.toArray = [i] := by kernel_rfl) :
    WA P ops Q (fuel + 1) listed l d w := by
  refine ⟨wpAnyIn_all hr (by simp) fun j hj => ?_⟩
  obtain rfl : j = i := by simpa using hj
  have h1 := h.out
  unfold wpOpIn
  rw [ho]
  simp only [wpListIn, Region.wanted, if_true] at h1 ⊢
  have h2 := wpIn_noPanic (N := fun a w => wpAnyIn (Fr none) 0 P .any ops (NQ Q) fuel (listed.set j true).toArray a w) (Q := NQ Q) h1
  simpa using h2
theorem WO.nilA (h : WA P ops Q fuel listed l d w) : WO P none ops (KA P ops Q fuel listed) [] l d w := ⟨⟨rfl, h.out⟩⟩
end
end Go.Proofs.Ytaamnccgciepbaa
