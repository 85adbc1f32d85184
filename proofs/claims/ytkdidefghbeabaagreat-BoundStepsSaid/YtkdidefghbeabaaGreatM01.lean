/- The symbolic heap: a frame as a list, fragments of owned blocks, and one rule for each form of code and each operation. Nothing here names a program. The symbolic heap: fragments of owned blocks, and what a call does to the rest. -/
import Derived.WalkKit
import Derived.WalkLawsBesides
import Derived.TacticsIn
import Derived.RangeFuncLeaves
import Derived.RangeFuncCalls
import Derived.RangeFuncFrom
import Derived.KernelRfl
import Derived.WalkSpells
namespace Go.Proofs.YtkdidefghbeabaaGreat
open Go Go.RowKit

/-! ## Code -/

def Fr (r : Option Nat) : Fence := { fn := fun _ => True, depth := none, alive := false, round := r }

abbrev St (l : List Value) (d : List Deferred) : Act := { tmps := l.toArray, defers := d }

structure WC (P : Program) (r : Option Nat) (c : Code) (Q : Exit → Act → World → Prop) (l : List Value) (d : List Deferred) (w : World) : Prop where
  out : c.wpIn (Fr r) 0 P Q (St l d) w
structure WO (P : Program) (r : Option Nat) (ops : Array Oper) (Q : Exit → Act → World → Prop) (os : List Oper) (l : List Value) (d : List Deferred) (w : World) : Prop where
  out : wpListIn (Fr r) 0 P ops Q os (St l d) w

section code
variable {P : Program} {r : Option Nat} {Q : Exit → Act → World → Prop} {l l' : List Value} {d : List Deferred} {w : World}

theorem WC.seq {x y : Code} (h : WC P r x (Exit.then (y.wpIn (Fr r) 0 P Q) Q) l d w) : WC P r (.seq x y) Q l d w := ⟨wpIn_seq h.out⟩
theorem WC.block {id : Nat} {c : Code} (h : WC P r c (Exit.inBlock id Q) l d w) : WC P r (.block id c) Q l d w := ⟨wpIn_block h.out⟩

/-- Where a first half ends, and how: on with the second half; out. -/
theorem QX.next {y : Code} (h : WC P r y Q l d w) : Exit.then (y.wpIn (Fr r) 0 P Q) Q .normal (St l d) w := h.out
theorem QX.norm {K : Act → World → Prop} (h : K (St l d) w) : Exit.then K Q .normal (St l d) w := h
theorem QX.exit {K : Act → World → Prop} {id : Nat} (h : Q (.exit id) (St l d) w) : Exit.then K Q (.exit id) (St l d) w := h
theorem QX.ret {K : Act → World → Prop} (h : Q .ret (St l d) w) : Exit.then K Q .ret (St l d) w := h
theorem QX.bnorm {id : Nat} (h : Q .normal (St l d) w) : Exit.inBlock id Q .normal (St l d) w := h
theorem QX.bret {id : Nat} (h : Q .ret (St l d) w) : Exit.inBlock id Q .ret (St l d) w := h
theorem QX.bsame {id : Nat} (h : Q .normal (St l d) w) : Exit.inBlock id Q (.exit id) (St l d) w := by simpa [Exit.inBlock] using h
theorem QX.bother {id j : Nat} (hj : (j == id) = false) (h : Q (.exit j) (St l d) w) : Exit.inBlock id Q (.exit j) (St l d) w := by
  have : j ≠ id := by simpa using hj
  simpa [Exit.inBlock, this] using h

theorem WC.cond {c : Operand} {x y : Code} {t : Bool} (hc : (St l d).eval c = .bool t) (h : WC P r (if t then x else y) Q l d w) : WC P r (.cond c x y) Q l d w := ⟨wpIn_cond hc h.out⟩
theorem WC.condT {c : Operand} {x y : Code} (hc : (St l d).eval c = .bool true) (h : WC P r x Q l d w) : WC P r (.cond c x y) Q l d w := ⟨wpIn_cond hc h.out⟩
theorem WC.condF {c : Operand} {x y : Code} (hc : (St l d).eval c = .bool false) (h : WC P r y Q l d w) : WC P r (.cond c x y) Q l d w := ⟨wpIn_cond hc h.out⟩
theorem WC.split {c : Operand} {x y : Code} {t : Bool} (hc : (St l d).eval c = .bool t) (ht : t = true → WC P r x Q l d w) (hf : t = false → WC P r y Q l d w) : WC P r (.cond c x y) Q l d w := ⟨wpIn_cond_split hc (fun e => (ht e).out) (fun e => (hf e).out)⟩

theorem WC.skip (h : Q .normal (St l d) w) : WC P r .skip Q l d w := ⟨wpIn_skip h⟩
theorem WC.ret (h : Q .ret (St l d) w) : WC P r .ret Q l d w := ⟨wpIn_ret h⟩
theorem WC.exit {id : Nat} (h : Q (.exit id) (St l d) w) : WC P r (.exit id) Q l d w := ⟨wpIn_exit h⟩
theorem WC.region {id : Nat} {os : List Oper} (h : WO P r os.toArray Q os l d w) : WC P r (.region id os.toArray false) Q l d w := ⟨wpIn_region_lit h.out⟩
theorem WC.frame {c : Code} (hl : l = l') (h : WC P r c Q l' d w) : WC P r c Q l d w := hl ▸ h

theorem WC.loop {c : Code} (I : List Value → List Deferred → World → Prop) (μ : List Value → List Deferred → World → Nat) (h0 : I l d w)
    (round : ∀ l d w, I l d w → ∀ K : Act → World → Prop, (∀ l' d' w', I l' d' w' → μ l' d' w' < μ l d w → K (St l' d') w') → WC P r c (Exit.then K Q) l d w) : WC P r (.loop c) Q l d w := by
  refine ⟨wpIn_loop (fun a w => ∃ l d, a = St l d ∧ I l d w) (fun a w => μ a.tmps.toList a.defers w) ⟨l, d, rfl, h0⟩ ?_⟩
  rintro a w ⟨l, d, rfl, hI⟩
  exact (round l d w hI _ (fun l' d' w' h1 h2 => ⟨⟨l', d', rfl, h1⟩, by simpa using h2⟩)).out

/-! ## Operations -/

def put (l : List Value) : Option Tmp → Value → List Value
  | some i, v => l.set i v
  | none, _ => l

theorem St_put (dst : Option Tmp) (v : Value) : (St l d).put dst v = St (put l dst v) d := by
  cases dst <;> simp [Act.put, put]

theorem WO.frame {ops : Array Oper} {os : List Oper} (hl : l = l') (h : WO P r ops Q os l' d w) : WO P r ops Q os l d w := hl ▸ h
theorem WO.id {ops : Array Oper} {os : List Oper} (h : WO P r ops Q os l d w) : WO P r ops Q os l d w := h
theorem WC.id {c : Code} (h : WC P r c Q l d w) : WC P r c Q l d w := h
theorem WO.nil {ops : Array Oper} (h : Q .normal (St l d) w) : WO P r ops Q [] l d w := ⟨h⟩

variable {ops : Array Oper} {os : List Oper} {dst : Option Tmp} {ty : TypeId} {pos : String} {af : Array Edge} {w' : World} {v : Value}

theorem WO.val {op : Op} (hnd : ∀ c, op ≠ .defer c) (hx : (execOp (St l d).eval ⟨dst, op, ty, pos, af, none⟩).run P w = .ok (.value v) w') (hl : put l dst v = l') (h : WO P r ops Q os l' d w') :
    WO P r ops Q (⟨dst, op, ty, pos, af, none⟩ :: os) l d w := by
  refine ⟨wpListIn_plain rfl (fun K hK => ?_)⟩
  refine ⟨fun _ _ => trivial, ?_⟩
  have hs : Oper.semAt (Fr r).round (St l d).eval ⟨dst, op, ty, pos, af, none⟩ = execOp (St l d).eval ⟨dst, op, ty, pos, af, none⟩ := by
    cases hr : (Fr r).round with
    | none => rfl
    | some x => exact Oper.semAt_some x _ _ hnd
  rw [hs, hx, Oper.uponIn_value, St_put, hl]
  exact hK _ _ h.out

theorem WO.skp {op : Op} (hnd : ∀ c, op ≠ .defer c) (hx : (execOp (St l d).eval ⟨dst, op, ty, pos, af, none⟩).run P w = .ok .skip w') (hl : put l dst undef = l') (h : WO P r ops Q os l' d w') :
    WO P r ops Q (⟨dst, op, ty, pos, af, none⟩ :: os) l d w := by
  refine ⟨wpListIn_plain rfl (fun K hK => ?_)⟩
  refine ⟨fun _ _ => trivial, ?_⟩
  have hs : Oper.semAt (Fr r).round (St l d).eval ⟨dst, op, ty, pos, af, none⟩ = execOp (St l d).eval ⟨dst, op, ty, pos, af, none⟩ := by
    cases hr : (Fr r).round with
    | none => rfl
    | some x => exact Oper.semAt_some x _ _ hnd
  rw [hs, hx, Oper.uponIn_skip, St_put, hl]
  exact hK _ _ h.out

theorem callsIn_fr {n : Nat} {f : FuncId} {args : Array Value} {R : Ending → World → Prop} (h : Calls P f args w R) : CallsIn (Fr r) n P f args w R := by
  have := (callsIn_wide (n := n)).2 h
  exact this
theorem calls_fr {n : Nat} {f : FuncId} {args : Array Value} {R : Ending → World → Prop} (h : CallsIn (Fr r) n P f args w R) : Calls P f args w R :=
  (callsIn_wide (n := n)).1 h

/-- A call of a function that is entered, by its contract. -/
theorem WO.enter {op : Op} {f : FuncId} {args : Array Value} {R : Ending → World → Prop} (hnd : ∀ c, op ≠ .defer c)
    (hx : (execOp (St l d).eval ⟨dst, op, ty, pos, af, none⟩).run P w = .ok (.enter f args) w') (hc : Calls P f args w' R)
    (h : ∀ e w'', R e w'' → ∃ v, e = .returned v ∧ WO P r ops Q os (put l dst v) d w'') :
    WO P r ops Q (⟨dst, op, ty, pos, af, none⟩ :: os) l d w := by
  refine ⟨wpListIn_plain rfl (fun K hK => ?_)⟩
  refine ⟨fun _ _ => trivial, ?_⟩
  have hs : Oper.semAt (Fr r).round (St l d).eval ⟨dst, op, ty, pos, af, none⟩ = execOp (St l d).eval ⟨dst, op, ty, pos, af, none⟩ := by
    cases hr : (Fr r).round with
    | none => rfl
    | some x => exact Oper.semAt_some x _ _ hnd
  rw [hs, hx, Oper.uponIn_enter]
  refine ⟨fun h => by simp [Fr] at h, callsIn_fr (hc.mono ?_)⟩
  intro e w'' hR
  obtain ⟨v, rfl, hv⟩ := h e w'' hR
  dsimp only
  rw [St_put]
  exact hK _ _ hv.out

/-- A round of a loop over a function, by what is known of it. -/
theorem WO.round {op : Op} {lp fn : Nat} {tmps : Array Value} {as bd : Code} {R : Ending → World → Prop} (hnd : ∀ c, op ≠ .defer c)
    (hx : (execOp (St l d).eval ⟨dst, op, ty, pos, af, none⟩).run P w = .ok (.round lp fn tmps as bd) w') (hc : RoundIn (Fr r) 0 P lp fn tmps as bd w' R)
    (h : ∀ e w'', R e w'' → ∃ v, e = .returned v ∧ WO P r ops Q os (put l dst v) d w'') :
    WO P r ops Q (⟨dst, op, ty, pos, af, none⟩ :: os) l d w := by
  refine ⟨wpListIn_plain rfl (fun K hK => ?_)⟩
  refine ⟨fun _ _ => trivial, ?_⟩
  have hs : Oper.semAt (Fr r).round (St l d).eval ⟨dst, op, ty, pos, af, none⟩ = execOp (St l d).eval ⟨dst, op, ty, pos, af, none⟩ := by
    cases hr : (Fr r).round with
    | none => rfl
    | some x => exact Oper.semAt_some x _ _ hnd
  rw [hs, hx, Oper.uponIn_round]
  refine ⟨fun h => by simp [Fr] at h, hc.mono ?_⟩
  intro e w'' hR
  obtain ⟨v, rfl, hv⟩ := h e w'' hR
  dsimp only
  rw [St_put]
  exact hK _ _ hv.out

theorem WO.cid {op : Op} (h : WO P r ops Q (⟨dst, op, ty, pos, af, none⟩ :: os) l d w) : WO P r ops Q (⟨dst, op, ty, pos, af, none⟩ :: os) l d w := h
theorem WO.gid {op : Op} {j : Nat} {b : Bool} (h : WO P r ops Q (⟨dst, op, ty, pos, af, some (j, b)⟩ :: os) l d w) : WO P r ops Q (⟨dst, op, ty, pos, af, some (j, b)⟩ :: os) l d w := h
/-- A guarded operation: taken. -/
theorem WO.on {op : Op} {j : Nat} {b : Bool} (hy : yielded ops l.toArray j = some b) (h : WO P r ops Q (⟨dst, op, ty, pos, af, none⟩ :: os) l d w) :
    WO P r ops Q (⟨dst, op, ty, pos, af, some (j, b)⟩ :: os) l d w := by
  have h := h.out
  simp only [wpListIn, Region.wanted, if_true] at h
  refine ⟨?_⟩
  simp only [wpListIn, Region.wanted, hy, beq_self_eq_true, if_true]
  exact h
/-- A guarded operation: passed over. -/
theorem WO.off {op : Op} {j : Nat} {b c : Bool} (hy : yielded ops l.toArray j = some c) (hbc : (c == b) = false) (hl : put l dst undef = l') (h : WO P r ops Q os l' d w) :
    WO P r ops Q (⟨dst, op, ty, pos, af, some (j, b)⟩ :: os) l d w := by
  have hw : Region.wanted ⟨dst, op, ty, pos, af, some (j, b)⟩ (yielded ops l.toArray) = false := by
    simp only [Region.wanted, hy]
    simpa using hbc
  refine ⟨?_⟩
  simp only [wpListIn, hw]
  refine ⟨fun _ _ => trivial, ?_⟩
  rw [St_put, hl]; exact h.out
theorem WO.offNone {op : Op} {j : Nat} {b : Bool} (hy : yielded ops l.toArray j = none) (hl : put l dst undef = l') (h : WO P r ops Q os l' d w) :
    WO P r ops Q (⟨dst, op, ty, pos, af, some (j, b)⟩ :: os) l d w := by
  have hw : Region.wanted ⟨dst, op, ty, pos, af, some (j, b)⟩ (yielded ops l.toArray) = false := by
    simp only [Region.wanted, hy]
    rfl
  refine ⟨?_⟩
  simp only [wpListIn, hw]
  refine ⟨fun _ _ => trivial, ?_⟩
  rw [St_put, hl]; exact h.out

end code
end Go.Proofs.YtkdidefghbeabaaGreat
namespace Go.Proofs.YtkdidefghbeabaaGreat
open Go Go.RowKit

abbrev Frag := List (Nat × Obj)
abbrev keys (h : Frag) : List Nat := h.map (·.1)

/-- From w on to w': of what lay in w only blocks of M have turned; the fragments Fs are owned: they lie in w' as told, apart from one another, and each of their blocks is one of M's or new. -/
structure Goes (w : World) (M : List Nat) (Fs : List Frag) (w' : World) : Prop where
  os : w'.os = w.os
  tape : w'.tape = w.tape
  output : w'.output = w.output
  size : w.heap.size ≤ w'.heap.size
  old : ∀ b, b < w.heap.size → b ∉ M → w'.heap[b]? = w.heap[b]?
  own : ∀ p ∈ Fs.flatten, w'.heap[p.1]? = some p.2
  nodup : (keys Fs.flatten).Nodup
  prov : ∀ b ∈ keys Fs.flatten, b ∈ M ∨ w.heap.size ≤ b

theorem Goes.refl (w : World) : Goes w [] [] w := ⟨rfl, rfl, rfl, Nat.le_refl _, fun _ _ _ => rfl, by simp, by simp, by simp⟩

/-- What is owned at the start. -/
def Owns (w : World) (h : Frag) : Prop := (∀ p ∈ h, w.heap[p.1]? = some p.2) ∧ (keys h).Nodup

theorem Owns.goes {w : World} {h : Frag} (H : Owns w h) : Goes w (keys h) [h] w :=
  ⟨rfl, rfl, rfl, Nat.le_refl _, fun _ _ _ => rfl, by simpa using H.1, by simpa using H.2, by intro b hb; left; simpa using hb⟩

section
variable {w0 w w' : World} {M : List Nat} {Fs Fs' : List Frag}

theorem Goes.below (h : Goes w [] Fs w') : Below w.heap.size w w' := ⟨h.os, h.tape, h.output, h.size, fun k hk => h.old k hk (by simp)⟩

/-- Fragments may be laid together, taken apart, turned round, dropped. -/
theorem Goes.sub (h : Goes w M Fs w') (hs : Fs'.flatten.Sublist Fs.flatten) : Goes w M Fs' w' :=
  ⟨h.os, h.tape, h.output, h.size, h.old, fun p hp => h.own p (hs.subset hp), List.Nodup.sublist (hs.map _) h.nodup, fun b hb => h.prov b ((hs.map _).subset hb)⟩
theorem Goes.perm (h : Goes w M Fs w') (hp : Fs'.flatten.Perm Fs.flatten) : Goes w M Fs' w' :=
  ⟨h.os, h.tape, h.output, h.size, h.old, fun p q => h.own p (hp.subset q), (hp.map _).nodup_iff.2 h.nodup, fun b hb => h.prov b ((hp.map _).subset hb)⟩
theorem Goes.flat (h : Goes w M Fs w') : Goes w M [Fs.flatten] w' := h.perm (by simp)
theorem Goes.drop (h : Goes w M Fs w') : Goes w M [] w' := h.sub (by simp)
theorem Goes.mono {M' : List Nat} (h : Goes w M Fs w') (hM : ∀ b ∈ M, b ∈ M' ∨ w.heap.size ≤ b) : Goes w M' Fs w' :=
  ⟨h.os, h.tape, h.output, h.size, fun b hb hn => h.old b hb (fun hm => by rcases hM b hm with h1 | h1; exact hn h1; omega), h.own, h.nodup, fun b hb => by
    rcases h.prov b hb with h1 | h1
    · exact hM b h1
    · exact .inr h1⟩

theorem Goes.lt (h : Goes w M Fs w') {b : Nat} (hb : b ∈ keys Fs.flatten) : b < w'.heap.size := by
  obtain ⟨p, hp, rfl⟩ := List.mem_map.1 hb
  exact (Array.getElem?_eq_some_iff.1 (h.own p hp)).1

/-- A new block. -/
theorem Goes.alloc (h : Goes w0 M Fs w) (o : Obj) : Goes w0 M ([(w.heap.size, o)] :: Fs) (w.alloc o) := by
  have hnew : w.heap.size ∉ keys Fs.flatten := fun hm => Nat.lt_irrefl _ (h.lt hm)
  refine ⟨h.os, h.tape, h.output, by simp; exact Nat.le_succ_of_le h.size, fun b hb hn => (Below.heap_alloc w o b (by have := h.size; omega)).trans (h.old b hb hn), ?_, ?_, ?_⟩
  · intro p hp
    simp only [List.flatten_cons, List.cons_append, List.nil_append, List.mem_cons] at hp
    rcases hp with rfl | hp
    · exact World.alloc_heap_new w o
    · exact (Below.heap_alloc w o p.1 (h.lt (List.mem_map_of_mem hp))).trans (h.own p hp)
  · simp only [List.flatten_cons, List.cons_append, List.nil_append, keys, List.map_cons, List.nodup_cons]
    exact ⟨hnew, h.nodup⟩
  · intro b hb
    simp only [List.flatten_cons, List.cons_append, List.nil_append, keys, List.map_cons, List.mem_cons] at hb
    rcases hb with rfl | hb
    · exact .inr h.size
    · exact h.prov b hb

theorem Goes.drew (h : Goes w0 M Fs w) : Goes w0 M Fs w.drew := ⟨h.os, h.tape, h.output, h.size, h.old, h.own, h.nodup, h.prov⟩

/-- One block's object in place of another's. -/
inductive Turn (b : Nat) (o o' : Obj) : List Frag → List Frag → Prop
  | here {f : Frag} {Fs : List Frag} : Turn b o o' (((b, o) :: f) :: Fs) (((b, o') :: f) :: Fs)
  | more {p : Nat × Obj} {f f' : Frag} {Fs Fs' : List Frag} (h : Turn b o o' (f :: Fs) (f' :: Fs')) : Turn b o o' ((p :: f) :: Fs) ((p :: f') :: Fs')
  | next {f : Frag} {Fs Fs' : List Frag} (h : Turn b o o' Fs Fs') : Turn b o o' (f :: Fs) (f :: Fs')

theorem Turn.split {b : Nat} {o o' : Obj} (h : Turn b o o' Fs Fs') : ∃ A B, Fs.flatten = A ++ (b, o) :: B ∧ Fs'.flatten = A ++ (b, o') :: B := by
  induction h with
  | @here f Fs => exact ⟨[], f ++ Fs.flatten, by simp, by simp⟩
  | @more p f f' Fs Fs' _ ih => obtain ⟨A, B, h1, h2⟩ := ih; exact ⟨p :: A, B, by simp at h1 ⊢; exact h1, by simp at h2 ⊢; exact h2⟩
  | @next f Fs Fs' _ ih => obtain ⟨A, B, h1, h2⟩ := ih; exact ⟨f ++ A, B, by simp [h1], by simp [h2]⟩

theorem Turn.own {b : Nat} {o o' : Obj} (h : Turn b o o' Fs Fs') (hg : Goes w0 M Fs w) : w.heap[b]? = some o := by
  obtain ⟨A, B, h1, _⟩ := h.split
  exact hg.own (b, o) (by rw [h1]; simp)

theorem Turn.goes {b : Nat} {o o' : Obj} (h : Turn b o o' Fs Fs') (hg : Goes w0 M Fs w) (h1 : w'.os = w.os) (h2 : w'.tape = w.tape) (h3 : w'.output = w.output) (h4 : w'.heap.size = w.heap.size)
    (h5 : ∀ k, k ≠ b → w'.heap[k]? = w.heap[k]?) (h6 : w'.heap[b]? = some o') : Goes w0 M Fs' w' := by
  obtain ⟨A, B, e1, e2⟩ := h.split
  have hn := hg.nodup
  rw [e1] at hn
  have hk : keys Fs'.flatten = keys Fs.flatten := by rw [e1, e2]; simp [keys]
  have hb : b ∈ keys Fs.flatten := by rw [e1]; simp [keys]
  refine ⟨h1.trans hg.os, h2.trans hg.tape, h3.trans hg.output, by rw [h4]; exact hg.size, ?_, ?_, hk ▸ hg.nodup, fun b hb => hg.prov b (hk ▸ hb)⟩
  · intro k hk hm
    have : k ≠ b := by
      rintro rfl
      rcases hg.prov k hb with h | h
      · exact hm h
      · omega
    exact (h5 k this).trans (hg.old k hk hm)
  · intro p hp
    rw [e2] at hp
    simp only [keys, List.map_append, List.map_cons, List.nodup_append, List.nodup_cons] at hn
    simp only [List.mem_append, List.mem_cons] at hp
    rcases hp with hp | rfl | hp
    · have : p.1 ≠ b := fun e => hn.2.2 p.1 (List.mem_map_of_mem hp) b (by simp) e
      exact (h5 _ this).trans (hg.own p (by rw [e1]; simp [hp]))
    · exact h6
    · have : p.1 ≠ b := fun e => hn.2.1.1 (e ▸ List.mem_map_of_mem hp)
      exact (h5 _ this).trans (hg.own p (by rw [e1]; simp [hp]))

theorem Turn.putObj {b : Nat} {o o' : Obj} (h : Turn b o o' Fs Fs') (hg : Goes w0 M Fs w) : Goes w0 M Fs' (w.putObj b o') := by
  have hb := h.own hg
  have hlt : b < w.heap.size := (Array.getElem?_eq_some_iff.1 hb).1
  refine h.goes hg rfl rfl rfl (by simp [World.putObj]) (fun k hk => World.putObj_heap_other hk) (World.putObj_heap_same hlt)

theorem Turn.setCell {b k : Nat} {c : Array Value} {t : TypeId} {f : Nat × Nat} {v : Value} (h : Turn b (.cells c t f) (.cells (c.setIfInBounds k v) t f) Fs Fs') (hg : Goes w0 M Fs w) : Goes w0 M Fs' (w.setCell ⟨b, k, none⟩ v) := by
  have hb := h.own hg
  refine h.goes hg rfl rfl rfl (by simp [World.setCell]) (fun k hk => ?_) ?_
  · simp only [World.setCell, Array.getElem?_modify]
    rw [if_neg (fun e => hk e.symm)]
  · simp [World.setCell, Array.getElem?_modify, hb]

/-- A callee that turns the fragment h alone, and hands back fragments. -/
theorem Goes.call {h : Frag} {R Gs : List Frag} (hg : Goes w0 M Fs w) (hp : Fs.flatten.Perm (h ++ R.flatten)) (hc : Goes w (keys h) Gs w') : Goes w0 M (Gs ++ R) w' := by
  have hnd := (hp.map (·.1)).nodup_iff.1 hg.nodup
  rw [List.map_append, List.nodup_append] at hnd
  have hin : ∀ b ∈ keys h, b ∈ keys Fs.flatten := fun b hb => (hp.map (·.1)).symm.subset (by rw [List.map_append]; exact List.mem_append_left _ hb)
  have hinR : ∀ b ∈ keys R.flatten, b ∈ keys Fs.flatten := fun b hb => (hp.map (·.1)).symm.subset (by rw [List.map_append]; exact List.mem_append_right _ hb)
  refine ⟨hc.os.trans hg.os, hc.tape.trans hg.tape, hc.output.trans hg.output, Nat.le_trans hg.size hc.size, ?_, ?_, ?_, ?_⟩
  · intro b hb hm
    rw [hc.old b (by have := hg.size; omega) (fun hk => by rcases hg.prov b (hin b hk) with h | h; exact hm h; omega)]
    exact hg.old b hb hm
  · intro p hp'
    rw [List.flatten_append, List.mem_append] at hp'
    rcases hp' with h1 | h1
    · exact hc.own p h1
    · have hmem : p ∈ Fs.flatten := hp.symm.subset (List.mem_append_right _ h1)
      rw [hc.old p.1 (hg.lt (List.mem_map_of_mem hmem)) (fun hk => hnd.2.2 p.1 hk p.1 (List.mem_map_of_mem h1) rfl)]
      exact hg.own p hmem
  · rw [List.flatten_append, keys, List.map_append, List.nodup_append]
    refine ⟨hc.nodup, hnd.2.1, ?_⟩
    intro a ha b hb e
    subst e
    rcases hc.prov a ha with h1 | h1
    · exact hnd.2.2 a h1 a hb rfl
    · have := hg.lt (hinR a hb); omega
  · intro b hb
    rw [List.flatten_append, keys, List.map_append, List.mem_append] at hb
    rcases hb with h1 | h1
    · rcases hc.prov b h1 with h2 | h2
      · exact hg.prov b (hin b h2)
      · exact .inr (Nat.le_trans hg.size h2)
    · exact hg.prov b (hinR b h1)

/-- A callee that turns nothing that lay there. -/
theorem Goes.call0 {Gs : List Frag} (hg : Goes w0 M Fs w) (hc : Goes w [] Gs w') : Goes w0 M (Gs ++ Fs) w' := hg.call (h := []) (R := Fs) (by simp) hc
/-- .. that keeps nothing for us. -/
theorem Goes.call00 {Gs : List Frag} (hg : Goes w0 M Fs w) (hc : Goes w [] Gs w') : Goes w0 M Fs w' := (hg.call0 hc).sub (by simp)
/-- The first fragment handed on. -/
theorem Goes.call1 {h : Frag} {Gs : List Frag} (hg : Goes w0 M (h :: Fs) w) (hc : Goes w (keys h) Gs w') : Goes w0 M (Gs ++ Fs) w' := hg.call (by simp) hc

theorem Goes.owns {h : Frag} {R : List Frag} (hg : Goes w0 M Fs w) (hp : Fs.flatten.Perm (h ++ R.flatten)) : Owns w h :=
  ⟨fun p hp' => hg.own p (hp.symm.subset (List.mem_append_left _ hp')), by
    have hnd := (hp.map (·.1)).nodup_iff.1 hg.nodup
    rw [List.map_append, List.nodup_append] at hnd
    exact hnd.1⟩
theorem Goes.owns1 {h : Frag} (hg : Goes w0 M (h :: Fs) w) : Owns w h := hg.owns (R := Fs) (by simp)

theorem Goes.swap {f g : Frag} (hg : Goes w0 M (f :: g :: Fs) w) : Goes w0 M (g :: f :: Fs) w :=
  hg.perm (by simp only [List.flatten_cons, ← List.append_assoc]; exact List.Perm.append_right _ List.perm_append_comm)
theorem Goes.join {f g : Frag} (hg : Goes w0 M (f :: g :: Fs) w) : Goes w0 M ((f ++ g) :: Fs) w := hg.perm (by simp)
def pullIn (f : Frag) : List Frag → List Frag
  | g :: r => g :: f :: r
  | [] => [f]
def pull : Nat → List Frag → List Frag
  | 0, l => l
  | _ + 1, [] => []
  | n + 1, f :: l => pullIn f (pull n l)
theorem pull_perm (n : Nat) : ∀ l : List Frag, (pull n l).flatten.Perm l.flatten := by
  induction n with
  | zero => intro l; exact List.Perm.refl _
  | succ n ih =>
    intro l
    cases l with
    | nil => exact List.Perm.refl _
    | cons f l =>
      have h := ih l
      simp only [pull]
      refine List.Perm.trans ?_ (show (f ++ (pull n l).flatten).Perm (f :: l).flatten from by rw [List.flatten_cons]; exact List.Perm.append_left f h)
      cases pull n l with
      | nil => simp [pullIn]
      | cons g r =>
        simp only [pullIn, List.flatten_cons, ← List.append_assoc]
        exact List.Perm.append_right _ List.perm_append_comm
/-- The n-th fragment brought to the front. -/
theorem Goes.front (n : Nat) (hg : Goes w0 M Fs w) : Goes w0 M (pull n Fs) w := hg.perm (pull_perm n Fs)
/-- A fragment's blocks are none of the others', and none of the old ones that are not handed on. -/
theorem Goes.apart {f : Frag} (hg : Goes w0 M (f :: Fs) w) {b : Nat} (hb : b ∈ keys Fs.flatten) : b ∉ keys f := by
  have hnd := hg.nodup
  rw [List.flatten_cons, keys, List.map_append, List.nodup_append] at hnd
  exact fun h => hnd.2.2 b h b hb rfl
theorem Goes.apartOld {f : Frag} (hg : Goes w0 M (f :: Fs) w) {b : Nat} (hb : b < w0.heap.size) (hM : b ∉ M) : b ∉ keys f := fun h => by
  rcases hg.prov b (by rw [List.flatten_cons, keys, List.map_append]; exact List.mem_append_left _ h) with h | h
  · exact hM h
  · omega
theorem Goes.cons (hg : Goes w0 M ([] :: Fs) w) : Goes w0 M Fs w := hg.perm (by simp)

/-! ## Cells -/

/-- A cell of an owned block. -/
inductive Has (b : Nat) (o : Obj) : List Frag → Prop
  | here {f : Frag} {Fs : List Frag} : Has b o (((b, o) :: f) :: Fs)
  | more {p : Nat × Obj} {f : Frag} {Fs : List Frag} (h : Has b o (f :: Fs)) : Has b o ((p :: f) :: Fs)
  | next {f : Frag} {Fs : List Frag} (h : Has b o Fs) : Has b o (f :: Fs)

theorem Has.mem {b : Nat} {o : Obj} (h : Has b o Fs) : (b, o) ∈ Fs.flatten := by
  induction h with
  | here => simp
  | more _ ih => simp at ih ⊢; exact .inr ih
  | next _ ih => simp at ih ⊢; exact .inr ih

theorem Has.own {b : Nat} {o : Obj} (h : Has b o Fs) (hg : Goes w0 M Fs w) : w.heap[b]? = some o := hg.own _ h.mem

theorem Has.cell {b k : Nat} {c : Array Value} {t : TypeId} {f : Nat × Nat} {v : Value} (h : Has b (.cells c t f) Fs) (hg : Goes w0 M Fs w) (hv : c[k]? = some v) : w.cell? ⟨b, k, none⟩ = some v := by
  simp [World.cell?, h.own hg, hv]

theorem Goes.cellOld (hg : Goes w0 M Fs w) {a : Addr} {v : Value} (h : w0.cell? a = some v) (hM : a.block ∉ M) : w.cell? a = some v :=
  (World.cell?_of_block (hg.old a.block (World.block_lt_of_cell? w0 a h) hM)).trans h
/-- A cell, some cells, of an owned block: found by search. -/
inductive CellAt (b k : Nat) (v : Value) : List Frag → Prop
  | here {c : List Value} {t : TypeId} {z : Nat × Nat} {f : Frag} {Fs : List Frag} (hv : c[k]? = some v) : CellAt b k v (((b, .cells c.toArray t z) :: f) :: Fs)
  | more {p : Nat × Obj} {f : Frag} {Fs : List Frag} (h : CellAt b k v (f :: Fs)) : CellAt b k v ((p :: f) :: Fs)
  | next {f : Frag} {Fs : List Frag} (h : CellAt b k v Fs) : CellAt b k v (f :: Fs)
inductive CellsAt (b k n : Nat) (cs : List Value) : List Frag → Prop
  | here {bl : List Value} {t : TypeId} {z : Nat × Nat} {f : Frag} {Fs : List Frag} (hv : (bl.drop k).take n = cs) (hn : cs.length = n) : CellsAt b k n cs (((b, .cells bl.toArray t z) :: f) :: Fs)
  | more {p : Nat × Obj} {f : Frag} {Fs : List Frag} (h : CellsAt b k n cs (f :: Fs)) : CellsAt b k n cs ((p :: f) :: Fs)
  | next {f : Frag} {Fs : List Frag} (h : CellsAt b k n cs Fs) : CellsAt b k n cs (f :: Fs)
theorem CellsAt.whole {b n : Nat} {bl : List Value} {t : TypeId} {z : Nat × Nat} {f : Frag} {Fs : List Frag} (hn : bl.length = n) : CellsAt b 0 n bl (((b, .cells bl.toArray t z) :: f) :: Fs) := .here (by rw [← hn]; simp) hn
theorem CellAt.has {b k : Nat} {v : Value} (h : CellAt b k v Fs) : ∃ c t z, Has b (.cells c t z) Fs ∧ c[k]? = some v := by
  induction h with
  | here hv => exact ⟨_, _, _, .here, by simpa using hv⟩
  | more _ ih => obtain ⟨c, t, z, h1, h2⟩ := ih; exact ⟨c, t, z, .more h1, h2⟩
  | next _ ih => obtain ⟨c, t, z, h1, h2⟩ := ih; exact ⟨c, t, z, .next h1, h2⟩
theorem CellsAt.has {b k n : Nat} {cs : List Value} (h : CellsAt b k n cs Fs) : ∃ bl t z, Has b (.cells (List.toArray bl) t z) Fs ∧ (bl.drop k).take n = cs ∧ cs.length = n := by
  induction h with
  | here hv hn => exact ⟨_, _, _, .here, hv, hn⟩
  | more _ ih => obtain ⟨c, t, z, h1, h2⟩ := ih; exact ⟨c, t, z, .more h1, h2⟩
  | next _ ih => obtain ⟨c, t, z, h1, h2⟩ := ih; exact ⟨c, t, z, .next h1, h2⟩
theorem CellAt.cell {b k : Nat} {v : Value} (h : CellAt b k v Fs) (hg : Goes w0 M Fs w) : w.cell? ⟨b, k, none⟩ = some v := by
  obtain ⟨c, t, z, h1, h2⟩ := h.has
  exact h1.cell hg h2
theorem Goes.cellsOld {a : Addr} {cs : List Value} (hg : Goes w0 M Fs w) (h : ∀ j v, cs[j]? = some v → w0.cell? (a.add j) = some v) (hM : a.block ∉ M) : ∀ j v, cs[j]? = some v → w.cell? (a.add j) = some v :=
  fun j v hj => hg.cellOld (h j v hj) (by have : (a.add j).block = a.block := by unfold Addr.add; split <;> rfl
                                          rw [this]; exact hM)
theorem Goes.cellOld0 (hg : Goes w0 [] Fs w) {a : Addr} {v : Value} (h : w0.cell? a = some v) : w.cell? a = some v := hg.cellOld h (by simp)
end
end Go.Proofs.YtkdidefghbeabaaGreat
