/- Regions that draw their order, some of whose operations turn the world. What looks at no world is taken first, one at a time; so is what only reads, if a condition S on the world tells what it reads, S is shown behind each operation that is carried out, but for the late ones, and the late ones wait for it; one that is alone to be ready is carried out. -/
import Derived.Test.YtdjepfpmoeecaaaLoops
namespace Go.Proofs.Ytdjepfpmoeecaaa
open Go Go.RowKit
set_option linter.unusedSimpArgs false
set_option linter.unusedVariables false

section
variable {F : Fence} {n : Nat} {P : Program} {ops : Array Oper} {Q : Exit → Act → World → Prop} {md : Region.Mode} {S : World → Prop} {late : List Nat}

def YieldsS (P : Program) (ops : Array Oper) (S : World → Prop) (o : Oper) (v : Value) (a : Act) : Prop :=
  ((Region.wanted o (yielded ops a.tmps) = true ∧ ∀ w, S w → (execOp a.eval o).run P w = .ok (.value v) w) ∨ (Region.wanted o (yielded ops a.tmps) = false ∧ v = undef)) ∧ ∀ w, o.about P w a.eval = none

theorem YieldsS.wpOpIn {i : Nat} {o : Oper} {v : Value} {a : Act} (hro : F.round = none) (hi : ops[i]? = some o) (hy : YieldsS P ops S o v a)
    {K : Act → World → Prop} {w : World} (hS : S w) (h : K (a.put o.dst v) w) : wpOpIn F n P ops Q i K a w := by
  unfold Go.wpOpIn
  simp only [hi]
  have hab : ∀ f, o.about P w a.eval = some f → F.fn f := fun f hf => by rw [hy.2 w] at hf; cases hf
  rcases hy.1 with ⟨hw, hv⟩ | ⟨hw, rfl⟩
  · simp only [hw, if_true, Oper.wpIn, hro, Oper.semAt_none, hv w hS, Oper.uponIn]; exact ⟨hab, h⟩
  · simp only [hw, Bool.false_eq_true, if_false]; exact ⟨hab, h⟩

theorem YieldsS.of_same {o : Oper} {v : Value} {a a' : Act} (hy : YieldsS P ops S o v a) (he : execOp a'.eval o = execOp a.eval o)
    (hw : Region.wanted o (yielded ops a'.tmps) = Region.wanted o (yielded ops a.tmps)) (hb : ∀ w, o.about P w a'.eval = o.about P w a.eval) : YieldsS P ops S o v a' :=
  ⟨by rw [he, hw]; exact hy.1, fun w => by rw [hb w]; exact hy.2 w⟩

theorem wpOpIn_putS {j : Nat} {oi oj : Oper} {v : Value} (hro : F.round = none) (hj : ops[j]? = some oj) (hap : oi.apart ops oj = true)
    (hsi : ∀ cs b, oi.op ≠ .select cs b) (hsj : ∀ cs b, oj.op ≠ .select cs b)
    (hQ : ∀ c a w, Q (.panic c) (a.put oi.dst v) w → Q (.panic c) a w) {K : Act → World → Prop} {a : Act} {w : World}
    (hy : YieldsS P ops S oi v a) (h : wpOpIn F n P ops Q j K (a.put oi.dst v) w) :
    wpOpIn F n P ops Q j (fun a' w' => YieldsS P ops S oi v a' ∧ K (a'.put oi.dst v) w') a w := by
  obtain ⟨h1, h2, h3⟩ := Oper.apart_spec hap
  have keep : ∀ (a : Act), YieldsS P ops S oi v a → ∀ u, YieldsS P ops S oi v (a.put oj.dst u) := fun a hy u =>
    hy.of_same (execOp_put oi hsi a oj.dst u h3) (wanted_put oi a oj.dst u h3) (fun w => about_put oi w a oj.dst u h3)
  have keepD : ∀ d, YieldsS P ops S oi v { a with defers := d :: a.defers } := fun d => hy.of_same rfl rfl (fun _ => rfl)
  unfold wpOpIn at *
  simp only [hj] at *
  rw [wanted_put oj a oi.dst v h1, about_put oj w a oi.dst v h1] at h
  split
  · rename_i hw
    simp only [hw, if_true] at h
    unfold Oper.wpIn at *
    rw [about_put oj w a oi.dst v h1] at h
    refine ⟨h.1, ?_⟩
    have h := h.2
    rw [hro, Oper.semAt_none, execOp_put oj hsj a oi.dst v h1] at h
    rw [hro, Oper.semAt_none]
    generalize (execOp a.eval oj).run P w = r at *
    cases r with
    | ok x w' =>
      cases x <;> simp only [Oper.uponIn] at h ⊢
      case value u => exact ⟨keep a hy u, by rw [← Act.put_comm a v u h2]; exact h⟩
      case skip => exact ⟨keep a hy _, by rw [← Act.put_comm a v undef h2]; exact h⟩
      case defer d =>
        refine ⟨keep _ (keepD d) _, ?_⟩
        rw [← Act.put_comm _ v undef h2, ← Act.put_defers]
        exact h
      case enter f args =>
        refine ⟨h.1, CallsIn.mono h.2 fun e w'' he => ?_⟩
        cases e with
        | returned u => exact ⟨keep a hy u, by rw [← Act.put_comm a v u h2]; exact he⟩
        | panicked c => exact hQ _ _ _ he
        | outgrown => exact he
      case row row args => exact ⟨h.1, RowsIn.mono h.2 fun u w'' he => ⟨keep a hy u, by rw [← Act.put_comm a v u h2]; exact he⟩⟩
      case round l f tmps assign body =>
        refine ⟨h.1, RoundIn.mono h.2 fun e w'' he => ?_⟩
        cases e with
        | returned u => exact ⟨keep a hy u, by rw [← Act.put_comm a v u h2]; exact he⟩
        | panicked c => exact hQ _ _ _ he
        | outgrown => exact he
    | halt x w' =>
      cases x <;> simp only [Oper.uponIn] at h ⊢
      case panic u => exact hQ _ _ _ h
  · rename_i hw
    simp only [hw] at h
    exact ⟨h.1, keep a hy _, by rw [← Act.put_comm a v undef h2]; exact h.2⟩

/-- wpAnyIn, with S behind each operation that is not late. -/
def wpAnyS (F : Fence) (n : Nat) (P : Program) (md : Region.Mode) (ops : Array Oper) (Q : Exit → Act → World → Prop) (S : World → Prop) (late : List Nat) : Nat → Array Bool → Act → World → Prop
  | 0, listed, a, w => Region.ready md ops listed = [] ∧ Q .normal a w
  | fuel + 1, listed, a, w =>
    (Region.ready md ops listed = [] → Q .normal a w) ∧
    ∀ i ∈ Region.ready md ops listed, wpOpIn F n P ops Q i (fun a' w' => (late.contains i = false → S w') ∧ wpAnyS F n P md ops Q S late fuel (listed.setIfInBounds i true) a' w') a w

theorem wpAnyIn_of_S : ∀ (fuel : Nat) (listed : Array Bool) (a : Act) (w : World), wpAnyS F n P md ops Q S late fuel listed a w → wpAnyIn F n P md ops Q fuel listed a w
  | 0, _, _, _, h => h
  | fuel + 1, _, _, _, h => ⟨h.1, fun i hi => wpOpIn_mono (fun a w h2 => wpAnyIn_of_S fuel _ a w h2.2) (h.2 i hi)⟩

/-- Does an operation wait for another one, by itself or through others? -/
def reach (md : Region.Mode) (ops : Array Oper) (i : Nat) : Nat → Nat → Bool
  | 0, _ => false
  | fuel + 1, k => match ops[k]? with
    | none => false
    | some o => o.after.any fun e => Region.binds md e && (e.on == i || reach md ops i fuel e.on)
/-- All late operations wait for this one. -/
def heldB (md : Region.Mode) (ops : Array Oper) (late : List Nat) (i : Nat) : Bool := late.all fun k => k == i || reach md ops i ops.size k
/-- What is listed has listed ahead of it what it waits for. -/
def Closed (md : Region.Mode) (ops : Array Oper) (listed : Array Bool) : Prop := ∀ j o, ops[j]? = some o → listed.getD j false = true → ∀ e ∈ o.after, Region.binds md e = true → listed.getD e.on false = true
def closedB (md : Region.Mode) (ops : Array Oper) (listed : Array Bool) : Bool := (List.range ops.size).all fun j => !listed.getD j false || match ops[j]? with
  | none => true
  | some o => o.after.all fun e => !Region.binds md e || listed.getD e.on false
theorem closed_of {listed : Array Bool} (h : closedB md ops listed = true) : Closed md ops listed := by
  intro j o ho hj e he hb
  have hlt := (Array.getElem?_eq_some_iff.1 ho).1
  have h1 := List.all_eq_true.1 h j (by simpa using hlt)
  rw [hj, ho] at h1
  simp only [Bool.not_true, Bool.false_or] at h1
  have h2 := Array.all_eq_true_iff_forall_mem.1 h1 e he
  rw [hb] at h2
  simpa using h2
theorem Closed.set {listed : Array Bool} {j : Nat} (h : Closed md ops listed) (hj : j ∈ Region.ready md ops listed) : Closed md ops (listed.setIfInBounds j true) := by
  intro k o ho hk e he hb
  obtain ⟨_, oj, hoj, hall⟩ := mem_ready.1 hj
  by_cases hjk : j = k
  · subst hjk
    rw [ho] at hoj
    obtain rfl := Option.some.inj hoj
    exact getD_set_true (hall e he hb)
  · rw [getD_set_ne false hjk] at hk
    exact getD_set_true (h k o ho hk e he hb)
theorem Closed.reach {listed : Array Bool} (h : Closed md ops listed) {i : Nat} : ∀ (fuel k : Nat) (o : Oper), ops[k]? = some o → (∀ e ∈ o.after, Region.binds md e = true → listed.getD e.on false = true) → reach md ops i fuel k = true → listed.getD i false = true
  | 0, _, _, _, _, hr => by simp [Go.Proofs.Ytdjepfpmoeecaaa.reach] at hr
  | fuel + 1, k, o, ho, hall, hr => by
    unfold Go.Proofs.Ytdjepfpmoeecaaa.reach at hr
    simp only [ho, Array.any_eq_true', Bool.and_eq_true, Bool.or_eq_true, beq_iff_eq] at hr
    obtain ⟨e, he, hb, hon⟩ := hr
    have hl := hall e he hb
    rcases hon with rfl | hon
    · exact hl
    · cases fuel with
      | zero => simp [Go.Proofs.Ytdjepfpmoeecaaa.reach] at hon
      | succ f =>
        cases ho2 : ops[e.on]? with
        | none => unfold Go.Proofs.Ytdjepfpmoeecaaa.reach at hon; simp [ho2] at hon
        | some o2 => exact Closed.reach h (f + 1) e.on o2 ho2 (h e.on o2 ho2 hl) hon

theorem wpAnyS_first {i : Nat} {oi : Oper} {v : Value} (hro : F.round = none) (hi : ops[i]? = some oi) (hsel : ∀ (j : Nat) (o : Oper) cs b, ops[j]? = some o → o.op ≠ .select cs b)
    (hQ : ∀ c a w, Q (.panic c) (a.put oi.dst v) w → Q (.panic c) a w) (hl : heldB md ops late i = true) :
    ∀ (fuel : Nat) (listed : Array Bool) (a : Act) (w : World), Closed md ops listed → S w →
      (∀ j oj, ops[j]? = some oj → j ≠ i → listed.getD j true = false → (∀ e ∈ oj.after, Region.binds md e = true → e.on ≠ i) → oi.apart ops oj = true) →
      i ∈ Region.ready md ops listed → YieldsS P ops S oi v a →
      wpAnyS F n P md ops Q S late fuel (listed.setIfInBounds i true) (a.put oi.dst v) w → wpAnyS F n P md ops Q S late (fuel + 1) listed a w := by
  intro fuel
  induction fuel with
  | zero =>
    intro listed a w hcl hS _ hr hy H
    refine ⟨fun h => (by rw [h] at hr; cases hr), fun j hj => ?_⟩
    by_cases hji : j = i
    · subst hji; exact hy.wpOpIn hro hi hS ⟨fun _ => hS, H⟩
    · have := ready_mono hj hji
      rw [H.1] at this
      cases this
  | succ fuel ih =>
    intro listed a w hcl hS hfree hr hy H
    refine ⟨fun h => (by rw [h] at hr; cases hr), fun j hj => ?_⟩
    by_cases hji : j = i
    · subst hji; exact hy.wpOpIn hro hi hS ⟨fun _ => hS, H⟩
    · have h1 := H.2 j (ready_mono hj hji)
      obtain ⟨hjun, oj, hoj, hall⟩ := mem_ready.1 hj
      have hnot : ∀ e ∈ oj.after, Region.binds md e = true → e.on ≠ i := fun e he hb heq => by
        have h1 := hall e he hb
        have h0 := (mem_ready.1 hr).1
        rw [heq] at h1
        rcases Nat.lt_or_ge i listed.size with h' | h'
        · simp [h'] at h0 h1; rw [h0] at h1; cases h1
        · simp [Array.getElem?_eq_none h'] at h1
      have hnl : late.contains j = false := by
        cases hc : late.contains j with
        | false => rfl
        | true =>
          have hmem : j ∈ late := by simpa using hc
          have h3 := List.all_eq_true.1 hl j hmem
          simp only [Bool.or_eq_true, beq_iff_eq] at h3
          rcases h3 with h3 | h3
          · exact absurd h3 hji
          · have h4 := hcl.reach _ j oj hoj hall h3
            have h0 := (mem_ready.1 hr).1
            rcases Nat.lt_or_ge i listed.size with h' | h'
            · simp [h'] at h0 h4; rw [h0] at h4; cases h4
            · simp [Array.getElem?_eq_none h'] at h4
      have h2 := wpOpIn_putS hro hoj (hfree j oj hoj hji hjun hnot) (fun cs b => hsel i oi cs b hi) (fun cs b => hsel j oj cs b hoj) hQ hy h1
      have hfree' : ∀ k ok, ops[k]? = some ok → k ≠ i → (listed.setIfInBounds j true).getD k true = false →
          (∀ e ∈ ok.after, Region.binds md e = true → e.on ≠ i) → oi.apart ops ok = true := fun k ok hk hki hun hno => by
        refine hfree k ok hk hki ?_ hno
        by_cases hjk : j = k
        · subst hjk; exact hjun
        · rw [getD_set_ne true hjk] at hun; exact hun
      refine wpOpIn_mono (fun a' w' h3 => ⟨h3.2.1, ih (listed.setIfInBounds j true) a' w' (hcl.set hj) (h3.2.1 hnl) hfree' (ready_mono hr (Ne.symm hji)) h3.1 ?_⟩) h2
      rw [Array.setIfInBounds_comm _ _ hji]
      exact h3.2.2
end

/-- A postcondition that lets no panic through. -/
def NQ (Q : Exit → Act → World → Prop) : Exit → Act → World → Prop := fun x a w => x = .normal ∧ Q .normal a w
structure WA (P : Program) (ops : Array Oper) (Q : Exit → Act → World → Prop) (S : World → Prop) (late : List Nat) (fuel : Nat) (listed : List Bool) (l : List Value) (d : List Deferred) (w : World) : Prop where
  out : wpAnyS (Fr none) 0 P .any ops (NQ Q) S late fuel listed.toArray (St l d) w
/-- .. behind one operation. -/
def KA (P : Program) (ops : Array Oper) (Q : Exit → Act → World → Prop) (S : World → Prop) (late : List Nat) (i : Nat) (fuel : Nat) (listed : List Bool) : Exit → Act → World → Prop :=
  fun x a w => x = .normal ∧ (late.contains i = false → S w) ∧ wpAnyS (Fr none) 0 P .any ops (NQ Q) S late fuel listed.toArray a w

section
variable {P : Program} {Q : Exit → Act → World → Prop} {S : World → Prop} {late : List Nat} {l l' : List Value} {d : List Deferred} {w w0 : World} {M : List Nat} {Fs : List Frag} {fuel : Nat} {listed listed' : List Bool}
variable {ops : Array Oper} {os : List Oper} {dst : Option Tmp} {ty : TypeId} {pos : String} {af : Array Edge} {v : Value}

theorem wpIn_noPanic {F : Fence} {n : Nat} {o : Oper} {a : Act} {w : World} {N : Act → World → Prop} {Q : Exit → Act → World → Prop} (hh : o.wpIn F n P a w (fun a w => Exit.normal = .normal ∧ N a w) (fun x a w => x = .normal ∧ N a w)) : o.wpIn F n P a w N Q := by
  unfold Oper.wpIn at *
  refine ⟨hh.1, ?_⟩
  have hh := hh.2
  generalize (o.semAt F.round a.eval).run P w = r at *
  cases r with
  | ok x w' =>
    cases x <;> simp only [Oper.uponIn] at hh ⊢ <;>
      first
        | exact hh.2
        | exact hh
        | exact ⟨hh.1, CallsIn.mono hh.2 (fun e w'' he => by cases e <;> first | exact he.2 | exact absurd he.1 (by simp) | (obtain ⟨_, _, h, _⟩ := he; cases h))⟩
        | exact ⟨hh.1, RowsIn.mono hh.2 (fun _ _ he => he.2)⟩
        | exact ⟨hh.1, RoundIn.mono hh.2 (fun e w'' he => by cases e <;> first | exact he.2 | exact absurd he.1 (by simp) | (obtain ⟨_, _, h, _⟩ := he; cases h))⟩
  | halt x w' => cases x <;> simp only [Oper.uponIn] at hh ⊢ <;> first | exact hh | exact absurd hh.1 (by simp)

theorem WC.drawn {id : Nat} (S : World → Prop) (late : List Nat) (hg : Goes w0 M Fs w) (h : ∀ w', Goes w0 M Fs w' → WA P os.toArray Q S late os.length (List.replicate os.length false) l d w') (hm : P.follows .mixedOrders = true := by kernel_rfl) :
    WC P none (.region id os.toArray true) Q l d w := by
  refine ⟨Go.wpIn_mono (Q := NQ Q) (wpIn_region_any hm (wpAnyIn_of_S (S := S) (late := late) _ _ _ _ ?_)) (fun e a w q => by cases q.1; exact q.2)⟩
  have := (h _ hg.drew).out
  simpa using this

theorem WA.nil (h : Q .normal (St l d) w) (hr : Region.ready .any ops listed.toArray = [] := by kernel_rfl) : WA P ops Q S late fuel listed l d w := by
  refine ⟨?_⟩
  cases fuel with
  | zero => exact ⟨hr, rfl, h⟩
  | succ f => exact ⟨fun _ => ⟨rfl, h⟩, by rw [hr]; simp⟩
theorem WA.frame (h : WA P ops Q S late fuel listed l' d w) (hl : l = l' := by first | (simp only [ev, gt, put, List.set_cons_succ, List.set_cons_zero, Nat.zero_add, Nat.add_zero, Nat.mul_one, Nat.reduceAdd, Nat.reduceMul, Int.toNat_natCast, Int.reduceToNat, List.map_cons, List.map_nil, List.cons_append, List.nil_append]; exact rfl) | simp only [ev, gt, put, List.set_cons_succ, List.set_cons_zero, Nat.zero_add, Nat.add_zero, Nat.mul_one, Nat.reduceAdd, Nat.reduceMul, Int.toNat_natCast, Int.reduceToNat, List.map_cons, List.map_nil, List.cons_append, List.nil_append]) : WA P ops Q S late fuel listed l d w := hl ▸ h

theorem nq_put {Q : Exit → Act → World → Prop} {dst : Option Tmp} {v : Value} : ∀ c a w, NQ Q (.panic c) (a.put dst v) w → NQ Q (.panic c) a w := fun c a w h => absurd h.1 (by simp)

/-- An operation that reads at most what S tells. -/
theorem WA.passS (i : Nat) {op : Op} (hS : S w) (h : WA P ops Q S late fuel (listed.set i true) l' d w) (ho : ops[i]? = some ⟨dst, op, ty, pos, af, none⟩ := by exact rfl) (hx : ∀ w, S w → Runs P l op ty w v := by intro w hs; first | ((with_reducible apply is_move); exact x_move) | ((with_reducible apply is_assign); exact x_assign) | ((with_reducible apply is_load); first | exact x_load | exact x_loadA) | ((with_reducible apply is_bin); first | exact x_cmp | exact x_arith | exact x_eqBool | exact x_eqStr | exact x_eqPtrNil | exact x_eqMapNil | exact x_eqSliceNil | exact x_eqAgg | exact x_quo | exact x_rem | exact x_addStr) | ((with_reducible apply is_fieldAddr); exact x_fieldAddr) | ((with_reducible apply is_indexAddr); first | exact x_indexAddr | exact x_indexAddrArr) | ((with_reducible apply is_field); first | exact x_field1 | exact x_fieldA) | ((with_reducible apply is_un); first | exact x_not | exact x_neg) | ((with_reducible apply is_pick); exact x_pick) | ((with_reducible apply is_builtin); first | exact x_lenSlice | exact x_lenString | exact x_min | exact x_max) | ((with_reducible apply is_extract); exact x_extract) | ((with_reducible apply is_nilCheck); exact x_nilCheck) | ((with_reducible apply is_makeFunc); exact x_makeFunc) | ((with_reducible apply is_build); exact x_build) | ((with_reducible apply is_convert); exact x_convInt) | ((with_reducible apply is_index); exact x_indexArr) | ((with_reducible apply is_slice); first | exact x_sliceLH | exact x_sliceH | exact x_sliceL)) (hl : put l dst v = l' := by first | (simp only [ev, gt, put, List.set_cons_succ, List.set_cons_zero, Nat.zero_add, Nat.add_zero, Nat.mul_one, Nat.reduceAdd, Nat.reduceMul, Int.toNat_natCast, Int.reduceToNat, List.map_cons, List.map_nil, List.cons_append, List.nil_append]; exact rfl) | simp only [ev, gt, put, List.set_cons_succ, List.set_cons_zero, Nat.zero_add, Nat.add_zero, Nat.mul_one, Nat.reduceAdd, Nat.reduceMul, Int.toNat_natCast, Int.reduceToNat, List.map_cons, List.map_nil, List.cons_append, List.nil_append])
    (hb : ∀ w, Oper.about P w (St l d).eval ⟨dst, op, ty, pos, af, none⟩ = none := by intro w; exact rfl)
    (hs : Region.noSelect ops = true := by kernel_rfl) (hf : Region.free .any ops listed.toArray i = true := by kernel_rfl) (hr : (Region.ready .any ops listed.toArray).contains i = true := by kernel_rfl) (hh : heldB .any ops late i = true := by kernel_rfl) (hcl : closedB .any ops listed.toArray = true := by kernel_rfl) :
    WA P ops Q S late (fuel + 1) listed l d w := by
  refine ⟨wpAnyS_first rfl ho (Region.noSelect_spec hs) nq_put hh fuel _ _ _ (closed_of hcl) hS (Region.free_spec ho hf) (by simpa using hr) (v := v) ⟨.inl ⟨rfl, fun w hw => (hx w hw).out d dst pos af⟩, hb⟩ ?_⟩
  have := h.out
  rw [← hl, ← St_put] at this
  simpa using this
end

section
variable {F : Fence} {n : Nat} {P : Program} {ops : Array Oper} {Q : Exit → Act → World → Prop} {md : Region.Mode} {S : World → Prop} {late : List Nat}
/-- An operation that looks at no world may be taken first whatever is late. -/
theorem wpAnyS_first0 {i : Nat} {oi : Oper} {v : Value} (hro : F.round = none) (hi : ops[i]? = some oi) (hsel : ∀ (j : Nat) (o : Oper) cs b, ops[j]? = some o → o.op ≠ .select cs b)
    (hQ : ∀ c a w, Q (.panic c) (a.put oi.dst v) w → Q (.panic c) a w) :
    ∀ (fuel : Nat) (listed : Array Bool) (a : Act) (w : World), (late.contains i = false → S w) →
      (∀ j oj, ops[j]? = some oj → j ≠ i → listed.getD j true = false → (∀ e ∈ oj.after, Region.binds md e = true → e.on ≠ i) → oi.apart ops oj = true) →
      i ∈ Region.ready md ops listed → YieldsS P ops (fun _ => True) oi v a → late.contains i = true ∨ S w ∧ (∀ j, j ≠ i → late.contains j = true → listed.getD j true = true ∨ ∃ o, ops[j]? = some o ∧ ∃ e ∈ o.after, Region.binds md e = true ∧ e.on = i) →
      wpAnyS F n P md ops Q S late fuel (listed.setIfInBounds i true) (a.put oi.dst v) w → wpAnyS F n P md ops Q S late (fuel + 1) listed a w := by
  intro fuel
  induction fuel with
  | zero =>
    intro listed a w hS _ hr hy _ H
    refine ⟨fun h => (by rw [h] at hr; cases hr), fun j hj => ?_⟩
    by_cases hji : j = i
    · subst hji; exact hy.wpOpIn hro hi trivial ⟨hS, H⟩
    · have := ready_mono hj hji
      rw [H.1] at this
      cases this
  | succ fuel ih =>
    intro listed a w hS hfree hr hy hL H
    refine ⟨fun h => (by rw [h] at hr; cases hr), fun j hj => ?_⟩
    by_cases hji : j = i
    · subst hji; exact hy.wpOpIn hro hi trivial ⟨hS, H⟩
    · have h1 := H.2 j (ready_mono hj hji)
      obtain ⟨hjun, oj, hoj, hall⟩ := mem_ready.1 hj
      have hnot : ∀ e ∈ oj.after, Region.binds md e = true → e.on ≠ i := fun e he hb heq => by
        have h1 := hall e he hb
        have h0 := (mem_ready.1 hr).1
        rw [heq] at h1
        rcases Nat.lt_or_ge i listed.size with h' | h'
        · simp [h'] at h0 h1; rw [h0] at h1; cases h1
        · simp [Array.getElem?_eq_none h'] at h1
      have hnl : late.contains i = true ∨ late.contains j = false := by
        rcases hL with h | ⟨_, hL⟩
        · exact .inl h
        · cases hc : late.contains j with
          | false => exact .inr rfl
          | true =>
            rcases hL j hji hc with h | ⟨o, ho, e, he, hb, hon⟩
            · rw [h] at hjun; cases hjun
            · rw [hoj] at ho
              obtain rfl := Option.some.inj ho
              exact absurd hon (hnot e he hb)
      have h2 := wpOpIn_putS hro hoj (hfree j oj hoj hji hjun hnot) (fun cs b => hsel i oi cs b hi) (fun cs b => hsel j oj cs b hoj) hQ hy h1
      have hfree' : ∀ k ok, ops[k]? = some ok → k ≠ i → (listed.setIfInBounds j true).getD k true = false →
          (∀ e ∈ ok.after, Region.binds md e = true → e.on ≠ i) → oi.apart ops ok = true := fun k ok hk hki hun hno => by
        refine hfree k ok hk hki ?_ hno
        by_cases hjk : j = k
        · subst hjk; exact hjun
        · rw [getD_set_ne true hjk] at hun; exact hun
      refine wpOpIn_mono (fun a' w' h3 => ⟨h3.2.1, ih (listed.setIfInBounds j true) a' w' (fun hc => ?_) hfree' (ready_mono hr (Ne.symm hji)) h3.1 ?_ ?_⟩) h2
      · rcases hnl with h | h
        · rw [h] at hc; cases hc
        · exact h3.2.1 h
      · rcases hL with h | ⟨_, hL⟩
        · exact .inl h
        · rcases hnl with h | h
          · exact .inl h
          · refine .inr ⟨h3.2.1 h, fun k hk hc => ?_⟩
            rcases hL k hk hc with h | h
            · refine .inl ?_
              by_cases hjk : j = k
              · subst hjk; simp at hjun; simp [hjun] at h
              · rw [getD_set_ne true hjk]; exact h
            · exact .inr h
      · rw [Array.setIfInBounds_comm _ _ hji]
        exact h3.2.2
end

section
variable {P : Program} {Q : Exit → Act → World → Prop} {S : World → Prop} {late : List Nat} {l l' : List Value} {d : List Deferred} {w w0 : World} {M : List Nat} {Fs : List Frag} {fuel : Nat} {listed listed' : List Bool}
variable {ops : Array Oper} {os : List Oper} {dst : Option Tmp} {ty : TypeId} {pos : String} {af : Array Edge} {v : Value}
/-- One that looks at no world. -/
theorem WA.pass (i : Nat) {op : Op} (hS : S w) (h : WA P ops Q S late fuel (listed.set i true) l' d w) (ho : ops[i]? = some ⟨dst, op, ty, pos, af, none⟩ := by exact rfl) (hx : ∀ w, Runs P l op ty w v := by intro w; first | ((with_reducible apply is_move); exact x_move) | ((with_reducible apply is_assign); exact x_assign) | ((with_reducible apply is_load); first | exact x_load | exact x_loadA) | ((with_reducible apply is_bin); first | exact x_cmp | exact x_arith | exact x_eqBool | exact x_eqStr | exact x_eqPtrNil | exact x_eqMapNil | exact x_eqSliceNil | exact x_eqAgg | exact x_quo | exact x_rem | exact x_addStr) | ((with_reducible apply is_fieldAddr); exact x_fieldAddr) | ((with_reducible apply is_indexAddr); first | exact x_indexAddr | exact x_indexAddrArr) | ((with_reducible apply is_field); first | exact x_field1 | exact x_fieldA) | ((with_reducible apply is_un); first | exact x_not | exact x_neg) | ((with_reducible apply is_pick); exact x_pick) | ((with_reducible apply is_builtin); first | exact x_lenSlice | exact x_lenString | exact x_min | exact x_max) | ((with_reducible apply is_extract); exact x_extract) | ((with_reducible apply is_nilCheck); exact x_nilCheck) | ((with_reducible apply is_makeFunc); exact x_makeFunc) | ((with_reducible apply is_build); exact x_build) | ((with_reducible apply is_convert); exact x_convInt) | ((with_reducible apply is_index); exact x_indexArr) | ((with_reducible apply is_slice); first | exact x_sliceLH | exact x_sliceH | exact x_sliceL)) (hl : put l dst v = l' := by first | (simp only [ev, gt, put, List.set_cons_succ, List.set_cons_zero, Nat.zero_add, Nat.add_zero, Nat.mul_one, Nat.reduceAdd, Nat.reduceMul, Int.toNat_natCast, Int.reduceToNat, List.map_cons, List.map_nil, List.cons_append, List.nil_append]; exact rfl) | simp only [ev, gt, put, List.set_cons_succ, List.set_cons_zero, Nat.zero_add, Nat.add_zero, Nat.mul_one, Nat.reduceAdd, Nat.reduceMul, Int.toNat_natCast, Int.reduceToNat, List.map_cons, List.map_nil, List.cons_append, List.nil_append])
    (hb : ∀ w, Oper.about P w (St l d).eval ⟨dst, op, ty, pos, af, none⟩ = none := by intro w; exact rfl)
    (hs : Region.noSelect ops = true := by kernel_rfl) (hf : Region.free .any ops listed.toArray i = true := by kernel_rfl) (hr : (Region.ready .any ops listed.toArray).contains i = true := by kernel_rfl) (hh : heldB .any ops late i = true := by kernel_rfl) (hcl : closedB .any ops listed.toArray = true := by kernel_rfl) :
    WA P ops Q S late (fuel + 1) listed l d w := WA.passS i hS h ho (fun w _ => hx w) hl hb hs hf hr hh hcl
/-- A late one that looks at no world. -/
theorem WA.passL (i : Nat) {op : Op} (h : WA P ops Q S late fuel (listed.set i true) l' d w) (ho : ops[i]? = some ⟨dst, op, ty, pos, af, none⟩ := by exact rfl) (hx : ∀ w, Runs P l op ty w v := by intro w; first | ((with_reducible apply is_move); exact x_move) | ((with_reducible apply is_assign); exact x_assign) | ((with_reducible apply is_load); first | exact x_load | exact x_loadA) | ((with_reducible apply is_bin); first | exact x_cmp | exact x_arith | exact x_eqBool | exact x_eqStr | exact x_eqPtrNil | exact x_eqMapNil | exact x_eqSliceNil | exact x_eqAgg | exact x_quo | exact x_rem | exact x_addStr) | ((with_reducible apply is_fieldAddr); exact x_fieldAddr) | ((with_reducible apply is_indexAddr); first | exact x_indexAddr | exact x_indexAddrArr) | ((with_reducible apply is_field); first | exact x_field1 | exact x_fieldA) | ((with_reducible apply is_un); first | exact x_not | exact x_neg) | ((with_reducible apply is_pick); exact x_pick) | ((with_reducible apply is_builtin); first | exact x_lenSlice | exact x_lenString | exact x_min | exact x_max) | ((with_reducible apply is_extract); exact x_extract) | ((with_reducible apply is_nilCheck); exact x_nilCheck) | ((with_reducible apply is_makeFunc); exact x_makeFunc) | ((with_reducible apply is_build); exact x_build) | ((with_reducible apply is_convert); exact x_convInt) | ((with_reducible apply is_index); exact x_indexArr) | ((with_reducible apply is_slice); first | exact x_sliceLH | exact x_sliceH | exact x_sliceL)) (hl : put l dst v = l' := by first | (simp only [ev, gt, put, List.set_cons_succ, List.set_cons_zero, Nat.zero_add, Nat.add_zero, Nat.mul_one, Nat.reduceAdd, Nat.reduceMul, Int.toNat_natCast, Int.reduceToNat, List.map_cons, List.map_nil, List.cons_append, List.nil_append]; exact rfl) | simp only [ev, gt, put, List.set_cons_succ, List.set_cons_zero, Nat.zero_add, Nat.add_zero, Nat.mul_one, Nat.reduceAdd, Nat.reduceMul, Int.toNat_natCast, Int.reduceToNat, List.map_cons, List.map_nil, List.cons_append, List.nil_append])
    (hb : ∀ w, Oper.about P w (St l d).eval ⟨dst, op, ty, pos, af, none⟩ = none := by intro w; exact rfl)
    (hs : Region.noSelect ops = true := by kernel_rfl) (hf : Region.free .any ops listed.toArray i = true := by kernel_rfl) (hr : (Region.ready .any ops listed.toArray).contains i = true := by kernel_rfl) (hla : late.contains i = true := by kernel_rfl) :
    WA P ops Q S late (fuel + 1) listed l d w := by
  refine ⟨wpAnyS_first0 rfl ho (Region.noSelect_spec hs) nq_put fuel _ _ _ (fun h => by rw [hla] at h; cases h) (Region.free_spec ho hf) (by simpa using hr) (v := v) ⟨.inl ⟨rfl, fun w _ => (hx w).out d dst pos af⟩, hb⟩ (.inl hla) ?_⟩
  have := h.out
  rw [← hl, ← St_put] at this
  simpa using this
/-- The only one that is ready. -/
theorem WA.only (i : Nat) {op : Op} (h : WO P none ops (KA P ops Q S late i fuel (listed.set i true)) [⟨dst, op, ty, pos, af, none⟩] l d w) (ho : ops[i]? = some ⟨dst, op, ty, pos, af, none⟩ := by exact rfl) (hr : Region.ready .any ops listed.toArray = [i] := by kernel_rfl) :
    WA P ops Q S late (fuel + 1) listed l d w := by
  refine ⟨And.intro (fun h0 => by rw [hr] at h0; cases h0) ?_⟩
  intro j hj
  rw [hr] at hj
  obtain rfl : j = i := by simpa using hj
  have h1 := h.out
  unfold wpOpIn
  rw [ho]
  simp only [wpListIn, Region.wanted, if_true] at h1 ⊢
  have h2 := wpIn_noPanic (N := fun a w => (late.contains j = false → S w) ∧ wpAnyS (Fr none) 0 P .any ops (NQ Q) S late fuel (listed.set j true).toArray a w) (Q := NQ Q) h1
  simpa using h2
theorem WO.nilA {i : Nat} (hS : S w) (h : WA P ops Q S late fuel listed l d w) : WO P none ops (KA P ops Q S late i fuel listed) [] l d w := ⟨⟨rfl, fun _ => hS, h.out⟩⟩
theorem WO.nilL {i : Nat} (h : WA P ops Q S late fuel listed l d w) (hl : late.contains i = true := by exact rfl) : WO P none ops (KA P ops Q S late i fuel listed) [] l d w := ⟨⟨rfl, fun (h0 : late.contains i = false) => (by rw [hl] at h0; cases h0), h.out⟩⟩
theorem heap_cell {b k : Nat} {c : List Value} {t : TypeId} {z : Nat × Nat} (h : w.heap[b]? = some (.cells c.toArray t z)) (hv : c[k]? = some v) : w.cell? ⟨b, k, none⟩ = some v := by simp [World.cell?, h, hv]
theorem heap_cells {b k : Nat} {c cs : List Value} {t : TypeId} {z : Nat × Nat} (h : w.heap[b]? = some (.cells c.toArray t z)) (hv : (c.drop k).take cs.length = cs) : Cells w ⟨b, k, none⟩ cs := by
  intro j v hj
  rw [add_lit]
  refine heap_cell h ?_
  have h2 := (List.getElem?_eq_some_iff.1 hj).1
  rw [← hv, List.getElem?_take, if_pos h2, List.getElem?_drop] at hj
  exact hj
end
end Go.Proofs.Ytdjepfpmoeecaaa
