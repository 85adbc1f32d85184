/- The symbolic heap: a frame as a list, fragments of owned blocks, and one rule for each form of code and each operation. Nothing here names a program. -/
import Derived.WalkKit
import Derived.WalkLawsBesides
import Derived.TacticsIn
import Derived.RangeFuncLeaves
import Derived.RangeFuncCalls
import Derived.RangeFuncFrom
import Derived.KernelRfl
import Derived.WalkSpells
namespace Go.Proofs.Ytdjepfpmoeecaaa
open Go Go.RowKit

/-! ## Code -/

def Fr (r : Option Nat) : Fence := { fn := fun _ => True, depth := none, alive := false, round := r }

abbrev St (l : List Value) (d : List Deferred) : Act := { tmps := l.toArray, defers := d }

structure WC (P : Program) (r : Option Nat) (c : Code) (Q : Exit → Act → World → Prop) (l : List Value) (d : List Deferred) (w : World) : Prop where
  out : c.wpIn (Fr r) 0 P Q (St l d) w
structure WO (P : Program) (r : Option Nat) (ops : Array Oper) (Q : Exit → Act → World → Prop) (os : List Oper) (l : List Value) (d : List Deferred) (w : World) : Prop where
  out : wpListIn (Fr r) 0 P ops Q os (St l d) w

section code
variable {P : Program} {r : Option Nat} {Q : Exit → Act → World → Prop} {l l' : List Value} {d : List Deferred} {w : World}

theorem WC.seq {x y : Code} (h : WC P r x (Exit.then (y.wpIn (Fr r) 0 P Q) Q) l d w) : WC P r (.seq x y) Q l d w := ⟨wpIn_seq h.out⟩
theorem WC.block {id : Nat} {c : Code} (h : WC P r c (Exit.inBlock id Q) l d w) : WC P r (.block id c) Q l d w := ⟨wpIn_block h.out⟩

/-- Where a first half ends, and how: on with the second half; out. -/
theorem QX.next {y : Code} (h : WC P r y Q l d w) : Exit.then (y.wpIn (Fr r) 0 P Q) Q .normal (St l d) w := h.out
theorem QX.norm {K : Act → World → Prop} (h : K (St l d) w) : Exit.then K Q .normal (St l d) w := h
theorem QX.exit {K : Act → World → Prop} {id : Nat} (h : Q (.exit id) (St l d) w) : Exit.then K Q (.exit id) (St l d) w := h
theorem QX.ret {K : Act → World → Prop} (h : Q .ret (St l d) w) : Exit.then K Q .ret (St l d) w := h
theorem QX.bnorm {id : Nat} (h : Q .normal (St l d) w) : Exit.inBlock id Q .normal (St l d) w := h
theorem QX.bret {id : Nat} (h : Q .ret (St l d) w) : Exit.inBlock id Q .ret (St l d) w := h
theorem QX.bsame {id : Nat} (h : Q .normal (St l d) w) : Exit.inBlock id Q (.exit id) (St l d) w := by simpa [Exit.inBlock] using h
theorem QX.bother {id j : Nat} (hj : (j == id) = false) (h : Q (.exit j) (St l d) w) : Exit.inBlock id Q (.exit j) (St l d) w := by
  have : j ≠ id := by simpa using hj
  simpa [Exit.inBlock, this] using h

theorem WC.cond {c : Operand} {x y : Code} {t : Bool} (hc : (St l d).eval c = .bool t) (h : WC P r (if t then x else y) Q l d w) : WC P r (.cond c x y) Q l d w := ⟨wpIn_cond hc h.out⟩
theorem WC.condT {c : Operand} {x y : Code} (hc : (St l d).eval c = .bool true) (h : WC P r x Q l d w) : WC P r (.cond c x y) Q l d w := ⟨wpIn_cond hc h.out⟩
theorem WC.condF {c : Operand} {x y : Code} (hc : (St l d).eval c = .bool false) (h : WC P r y Q l d w) : WC P r (.cond c x y) Q l d w := ⟨wpIn_cond hc h.out⟩
theorem WC.split {c : Operand} {x y : Code} {t : Bool} (hc : (St l d).eval c = .bool t) (ht : t = true → WC P r x Q l d w) (hf : t = false → WC P r y Q l d w) : WC P r (.cond c x y) Q l d w := ⟨wpIn_cond_split hc (fun e => (ht e).out) (fun e => (hf e).out)⟩

theorem WC.skip (h : Q .normal (St l d) w) : WC P r .skip Q l d w := ⟨wpIn_skip h⟩
theorem WC.ret (h : Q .ret (St l d) w) : WC P r .ret Q l d w := ⟨wpIn_ret h⟩
theorem WC.exit {id : Nat} (h : Q (.exit id) (St l d) w) : WC P r (.exit id) Q l d w := ⟨wpIn_exit h⟩
theorem WC.region {id : Nat} {os : List Oper} (h : WO P r os.toArray Q os l d w) : WC P r (.region id os.toArray false) Q l d w := ⟨wpIn_region_lit h.out⟩
theorem WC.frame {c : Code} (hl : l = l') (h : WC P r c Q l' d w) : WC P r c Q l d w := hl ▸ h

theorem WC.loop {c : Code} (I : List Value → List Deferred → World → Prop) (μ : List Value → List Deferred → World → Nat) (h0 : I l d w)
    (round : ∀ l d w, I l d w → ∀ K : Act → World → Prop, (∀ l' d' w', I l' d' w' → μ l' d' w' < μ l d w → K (St l' d') w') → WC P r c (Exit.then K Q) l d w) : WC P r (.loop c) Q l d w := by
  refine ⟨wpIn_loop (fun a w => ∃ l d, a = St l d ∧ I l d w) (fun a w => μ a.tmps.toList a.defers w) ⟨l, d, rfl, h0⟩ ?_⟩
  rintro a w ⟨l, d, rfl, hI⟩
  exact (round l d w hI _ (fun l' d' w' h1 h2 => ⟨⟨l', d', rfl, h1⟩, by simpa using h2⟩)).out

/-! ## Operations -/

def put (l : List Value) : Option Tmp → Value → List Value
  | some i, v => l.set i v
  | none, _ => l

theorem St_put (dst : Option Tmp) (v : Value) : (St l d).put dst v = St (put l dst v) d := by
  cases dst <;> simp [Act.put, put]

theorem WO.frame {ops : Array Oper} {os : List Oper} (hl : l = l') (h : WO P r ops Q os l' d w) : WO P r ops Q os l d w := hl ▸ h
theorem WO.id {ops : Array Oper} {os : List Oper} (h : WO P r ops Q os l d w) : WO P r ops Q os l d w := h
theorem WC.id {c : Code} (h : WC P r c Q l d w) : WC P r c Q l d w := h
theorem WO.nil {ops : Array Oper} (h : Q .normal (St l d) w) : WO P r ops Q [] l d w := ⟨h⟩

variable {ops : Array Oper} {os : List Oper} {dst : Option Tmp} {ty : TypeId} {pos : String} {af : Array Edge} {w' : World} {v : Value}

theorem WO.val {op : Op} (hnd : ∀ c, op ≠ .defer c) (hx : (execOp (St l d).eval ⟨dst, op, ty, pos, af, none⟩).run P w = .ok (.value v) w') (hl : put l dst v = l') (h : WO P r ops Q os l' d w') :
    WO P r ops Q (⟨dst, op, ty, pos, af, none⟩ :: os) l d w := by
  refine ⟨wpListIn_plain rfl (fun K hK => ?_)⟩
  refine ⟨fun _ _ => trivial, ?_⟩
  have hs : Oper.semAt (Fr r).round (St l d).eval ⟨dst, op, ty, pos, af, none⟩ = execOp (St l d).eval ⟨dst, op, ty, pos, af, none⟩ := by
    cases hr : (Fr r).round with
    | none => rfl
    | some x => exact Oper.semAt_some x _ _ hnd
  rw [hs, hx, Oper.uponIn_value, St_put, hl]
  exact hK _ _ h.out

theorem WO.skp {op : Op} (hnd : ∀ c, op ≠ .defer c) (hx : (execOp (St l d).eval ⟨dst, op, ty, pos, af, none⟩).run P w = .ok .skip w') (hl : put l dst undef = l') (h : WO P r ops Q os l' d w') :
    WO P r ops Q (⟨dst, op, ty, pos, af, none⟩ :: os) l d w := by
  refine ⟨wpListIn_plain rfl (fun K hK => ?_)⟩
  refine ⟨fun _ _ => trivial, ?_⟩
  have hs : Oper.semAt (Fr r).round (St l d).eval ⟨dst, op, ty, pos, af, none⟩ = execOp (St l d).eval ⟨dst, op, ty, pos, af, none⟩ := by
    cases hr : (Fr r).round with
    | none => rfl
    | some x => exact Oper.semAt_some x _ _ hnd
  rw [hs, hx, Oper.uponIn_skip, St_put, hl]
  exact hK _ _ h.out

theorem callsIn_fr {n : Nat} {f : FuncId} {args : Array Value} {R : Ending → World → Prop} (h : Calls P f args w R) : CallsIn (Fr r) n P f args w R := by
  have := (callsIn_wide (n := n)).2 h
  exact this
theorem calls_fr {n : Nat} {f : FuncId} {args : Array Value} {R : Ending → World → Prop} (h : CallsIn (Fr r) n P f args w R) : Calls P f args w R :=
  (callsIn_wide (n := n)).1 h

/-- A call of a function that is entered, by its contract. -/
theorem WO.enter {op : Op} {f : FuncId} {args : Array Value} {R : Ending → World → Prop} (hnd : ∀ c, op ≠ .defer c)
    (hx : (execOp (St l d).eval ⟨dst, op, ty, pos, af, none⟩).run P w = .ok (.enter f args) w') (hc : Calls P f args w' R)
    (h : ∀ e w'', R e w'' → ∃ v, e = .returned v ∧ WO P r ops Q os (put l dst v) d w'') :
    WO P r ops Q (⟨dst, op, ty, pos, af, none⟩ :: os) l d w := by
  refine ⟨wpListIn_plain rfl (fun K hK => ?_)⟩
  refine ⟨fun _ _ => trivial, ?_⟩
  have hs : Oper.semAt (Fr r).round (St l d).eval ⟨dst, op, ty, pos, af, none⟩ = execOp (St l d).eval ⟨dst, op, ty, pos, af, none⟩ := by
    cases hr : (Fr r).round with
    | none => rfl
    | some x => exact Oper.semAt_some x _ _ hnd
  rw [hs, hx, Oper.uponIn_enter]
  refine ⟨fun h => by simp [Fr] at h, callsIn_fr (hc.mono ?_)⟩
  intro e w'' hR
  obtain ⟨v, rfl, hv⟩ := h e w'' hR
  dsimp only
  rw [St_put]
  exact hK _ _ hv.out

/-- A round of a loop over a function, by what is known of it. -/
theorem WO.round {op : Op} {lp fn : Nat} {tmps : Array Value} {as bd : Code} {R : Ending → World → Prop} (hnd : ∀ c, op ≠ .defer c)
    (hx : (execOp (St l d).eval ⟨dst, op, ty, pos, af, none⟩).run P w = .ok (.round lp fn tmps as bd) w') (hc : RoundIn (Fr r) 0 P lp fn tmps as bd w' R)
    (h : ∀ e w'', R e w'' → ∃ v, e = .returned v ∧ WO P r ops Q os (put l dst v) d w'') :
    WO P r ops Q (⟨dst, op, ty, pos, af, none⟩ :: os) l d w := by
  refine ⟨wpListIn_plain rfl (fun K hK => ?_)⟩
  refine ⟨fun _ _ => trivial, ?_⟩
  have hs : Oper.semAt (Fr r).round (St l d).eval ⟨dst, op, ty, pos, af, none⟩ = execOp (St l d).eval ⟨dst, op, ty, pos, af, none⟩ := by
    cases hr : (Fr r).round with
    | none => rfl
    | some x => exact Oper.semAt_some x _ _ hnd
  rw [hs, hx, Oper.uponIn_round]
  refine ⟨fun h => by simp [Fr] at h, hc.mono ?_⟩
  intro e w'' hR
  obtain ⟨v, rfl, hv⟩ := h e w'' hR
  dsimp only
  rw [St_put]
  exact hK _ _ hv.out

theorem WO.cid {op : Op} (h : WO P r ops Q (⟨dst, op, ty, pos, af, none⟩ :: os) l d w) : WO P r ops Q (⟨dst, op, ty, pos, af, none⟩ :: os) l d w := h
theorem WO.gid {op : Op} {j : Nat} {b : Bool} (h : WO P r ops Q (⟨dst, op, ty, pos, af, some (j, b)⟩ :: os) l d w) : WO P r ops Q (⟨dst, op, ty, pos, af, some (j, b)⟩ :: os) l d w := h
/-- A guarded operation: taken. -/
theorem WO.on {op : Op} {j : Nat} {b : Bool} (hy : yielded ops l.toArray j = some b) (h : WO P r ops Q (⟨dst, op, ty, pos, af, none⟩ :: os) l d w) :
    WO P r ops Q (⟨dst, op, ty, pos, af, some (j, b)⟩ :: os) l d w := by
  have h := h.out
  simp only [wpListIn, Region.wanted, if_true] at h
  refine ⟨?_⟩
  simp only [wpListIn, Region.wanted, hy, beq_self_eq_true, if_true]
  exact h
/-- A guarded operation: passed over. -/
theorem WO.off {op : Op} {j : Nat} {b c : Bool} (hy : yielded ops l.toArray j = some c) (hbc : (c == b) = false) (hl : put l dst undef = l') (h : WO P r ops Q os l' d w) :
    WO P r ops Q (⟨dst, op, ty, pos, af, some (j, b)⟩ :: os) l d w := by
  have hw : Region.wanted ⟨dst, op, ty, pos, af, some (j, b)⟩ (yielded ops l.toArray) = false := by
    simp only [Region.wanted, hy]
    simpa using hbc
  refine ⟨?_⟩
  simp only [wpListIn, hw]
  refine ⟨fun _ _ => trivial, ?_⟩
  rw [St_put, hl]; exact h.out

end code
end Go.Proofs.Ytdjepfpmoeecaaa
