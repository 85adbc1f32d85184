/- The document's automata: Right, Tag, Far. -/
import Derived.Test.YtkdidefghbeabaaGreatM19
import Derived.Test.YtkdidefghbeabaaGreatM08
namespace Go.Proofs.YtkdidefghbeabaaGreat
open Go Go.RowKit
set_option maxRecDepth 10000
set_option linter.unusedSimpArgs false
set_option linter.unusedVariables false

section
variable {P : Program} {Q : Exit → Go.Act → World → Prop} {S : World → Prop} {late : List Nat} {l l' : List Value} {d : List Deferred} {w w0 : World} {M : List Nat} {Fs : List Frag} {fuel : Nat} {listed : List Bool}
variable {ops : Array Oper} {os : List Oper} {dst : Option Tmp} {ty : TypeId} {pos : String} {af : Array Edge} {v : Value} {op : Op}
/-- One that is left out. -/
theorem WA.passN (i : Nat) {j : Nat} {b : Bool} {op : Op} (hS : S w) (h : WA P ops Q S late fuel (listed.set i true) l' d w) (ho : ops[i]? = some ⟨dst, op, ty, pos, af, some (j, b)⟩ := by exact rfl) (hy : Region.wanted ⟨dst, op, ty, pos, af, some (j, b)⟩ (yielded ops (St l d).tmps) = false := by exact rfl) (hl : put l dst undef = l' := by first | (simp only [ev, gt, put, List.set_cons_succ, List.set_cons_zero, Nat.zero_add, Nat.add_zero, Nat.mul_one, Nat.reduceAdd, Nat.reduceMul, Int.toNat_natCast, Int.reduceToNat, List.map_cons, List.map_nil, List.cons_append, List.nil_append]; exact rfl) | simp only [ev, gt, put, List.set_cons_succ, List.set_cons_zero, Nat.zero_add, Nat.add_zero, Nat.mul_one, Nat.reduceAdd, Nat.reduceMul, Int.toNat_natCast, Int.reduceToNat, List.map_cons, List.map_nil, List.cons_append, List.nil_append])
    (hb : ∀ w, Oper.about P w (St l d).eval ⟨dst, op, ty, pos, af, some (j, b)⟩ = none := by intro w; exact rfl)
    (hs : Region.noSelect ops = true := by kernel_rfl) (hf : Region.free .any ops listed.toArray i = true := by kernel_rfl) (hr : (Region.ready .any ops listed.toArray).contains i = true := by kernel_rfl) (hh : heldM .any ops late i = true := by kernel_rfl) (hcl : closedB .any ops listed.toArray = true := by kernel_rfl) :
    WA P ops Q S late (fuel + 1) listed l d w := by
  refine ⟨wpAnyS_firstM rfl ho (Region.noSelect_spec hs) nq_put hh fuel _ _ _ (closed_of hcl) hS (Region.free_spec ho hf) (by simpa using hr) (v := undef) ⟨.inr ⟨hy, rfl⟩, hb⟩ ?_⟩
  have := h.out
  rw [← hl, ← St_put] at this
  simpa using this
theorem WA.passG (i : Nat) {j : Nat} {b : Bool} {op : Op} (hS : S w) (h : WA P ops Q S late fuel (listed.set i true) l' d w) (ho : ops[i]? = some ⟨dst, op, ty, pos, af, some (j, b)⟩ := by exact rfl) (hy : yielded ops l.toArray j = some b := by exact rfl) (hx : ∀ w, S w → Runs P l op ty w v := by intro w hs; first | ((with_reducible apply is_move); exact x_move) | ((with_reducible apply is_assign); exact x_assign) | ((with_reducible apply is_load); first | exact x_load | exact x_loadA) | ((with_reducible apply is_bin); first | exact x_cmp | exact x_arith | exact x_eqBool | exact x_eqStr | exact x_eqPtrNil | exact x_eqMapNil | exact x_eqSliceNil | exact x_eqAgg | exact x_quo | exact x_rem | exact x_addStr | exact x_eqFuncNil) | ((with_reducible apply is_fieldAddr); exact x_fieldAddr) | ((with_reducible apply is_indexAddr); first | exact x_indexAddr | exact x_indexAddrArr) | ((with_reducible apply is_field); first | exact x_field1 | exact x_fieldA) | ((with_reducible apply is_un); first | exact x_not | exact x_neg) | ((with_reducible apply is_pick); exact x_pick) | ((with_reducible apply is_builtin); first | exact x_lenSlice | exact x_lenString | exact x_min | exact x_max) | ((with_reducible apply is_extract); exact x_extract) | ((with_reducible apply is_nilCheck); exact x_nilCheck) | ((with_reducible apply is_makeFunc); exact x_makeFunc) | ((with_reducible apply is_build); exact x_build) | ((with_reducible apply is_convert); exact x_convInt) | ((with_reducible apply is_index); first | exact x_indexArr | exact x_indexStrL) | ((with_reducible apply is_slice); first | exact x_sliceLH | exact x_sliceH | exact x_sliceL | exact x_sliceHM)) (hl : put l dst v = l' := by first | (simp only [ev, gt, put, List.set_cons_succ, List.set_cons_zero, Nat.zero_add, Nat.add_zero, Nat.mul_one, Nat.reduceAdd, Nat.reduceMul, Int.toNat_natCast, Int.reduceToNat, List.map_cons, List.map_nil, List.cons_append, List.nil_append]; exact rfl) | simp only [ev, gt, put, List.set_cons_succ, List.set_cons_zero, Nat.zero_add, Nat.add_zero, Nat.mul_one, Nat.reduceAdd, Nat.reduceMul, Int.toNat_natCast, Int.reduceToNat, List.map_cons, List.map_nil, List.cons_append, List.nil_append])
    (hb : ∀ w, Oper.about P w (St l d).eval ⟨dst, op, ty, pos, af, some (j, b)⟩ = none := by intro w; exact rfl)
    (hs : Region.noSelect ops = true := by kernel_rfl) (hf : Region.free .any ops listed.toArray i = true := by kernel_rfl) (hr : (Region.ready .any ops listed.toArray).contains i = true := by kernel_rfl) (hh : heldM .any ops late i = true := by kernel_rfl) (hcl : closedB .any ops listed.toArray = true := by kernel_rfl) :
    WA P ops Q S late (fuel + 1) listed l d w := by
  have hw : Region.wanted ⟨dst, op, ty, pos, af, some (j, b)⟩ (yielded ops (St l d).tmps) = true := by
    simp only [Region.wanted]
    rw [hy]
    simp
  have hex : ∀ w, S w → (execOp (St l d).eval ⟨dst, op, ty, pos, af, some (j, b)⟩).run P w = .ok (.value v) w := fun w hw => (hx w hw).out d dst pos af
  refine ⟨wpAnyS_firstM rfl ho (Region.noSelect_spec hs) nq_put hh fuel _ _ _ (closed_of hcl) hS (Region.free_spec ho hf) (by simpa using hr) (v := v) ⟨.inl ⟨hw, hex⟩, hb⟩ ?_⟩
  have := h.out
  rw [← hl, ← St_put] at this
  simpa using this
theorem WA.step1G {i j : Nat} {b : Bool} (h : WO P none ops (KA P ops Q S late i fuel (listed.set i true)) [⟨dst, op, ty, pos, af, none⟩] l d w) (ho : ops[i]? = some ⟨dst, op, ty, pos, af, some (j, b)⟩) (hy : yielded ops l.toArray j = some b) :
    wpOpIn (Fr none) 0 P ops (NQ Q) i (fun a' w' => (late.contains i = false → S w') ∧ wpAnyS (Fr none) 0 P .any ops (NQ Q) S late fuel (listed.toArray.setIfInBounds i true) a' w') (St l d) w := by
  have h1 := h.out
  unfold wpOpIn
  rw [ho]
  simp only [wpListIn, Region.wanted, if_true, hy, beq_self_eq_true] at h1 ⊢
  have h2 := wpIn_noPanic (N := fun a w => (late.contains i = false → S w) ∧ wpAnyS (Fr none) 0 P .any ops (NQ Q) S late fuel (listed.set i true).toArray a w) (Q := NQ Q) h1
  have h3 : Oper.wpIn (Fr none) 0 P ⟨dst, op, ty, pos, af, some (j, b)⟩ (St l d) w (fun a w => (late.contains i = false → S w) ∧ wpAnyS (Fr none) 0 P .any ops (NQ Q) S late fuel (listed.set i true).toArray a w) (NQ Q) := h2
  simpa using h3
theorem WA.onlyG (i : Nat) {j : Nat} {b : Bool} (h : WO P none ops (KA P ops Q S late i fuel (listed.set i true)) [⟨dst, op, ty, pos, af, none⟩] l d w) (ho : ops[i]? = some ⟨dst, op, ty, pos, af, some (j, b)⟩ := by exact rfl) (hy : yielded ops l.toArray j = some b := by exact rfl) (hr : Region.ready .any ops listed.toArray = [i] := by kernel_rfl) :
    WA P ops Q S late (fuel + 1) listed l d w := by
  refine ⟨And.intro (fun h0 => by rw [hr] at h0; cases h0) ?_⟩
  intro k hk
  rw [hr] at hk
  obtain rfl := List.mem_singleton.1 hk
  exact WA.step1G h ho hy
end

structure DfaR (d : PDfa) : Prop where
  c1 : d.cls.length = 256
  c2 : ∃ n : Nat, alphaN d.cls 0 = some n ∧ d.width = n
  n1 : d.next.length ≤ 1024
  t1 : d.tag.length = d.next.length
  s1 : -1 ≤ d.start ∧ d.start < d.next.length
  t2 : ∀ i, i < d.next.length → -1 ≤ d.tag.getD i 0
  r1 : ∀ i, i < d.next.length → ((d.next.getD i []).length : Int) = d.width
  r2 : ∀ i k, i < d.next.length → k < (d.next.getD i []).length → -1 ≤ (d.next.getD i []).getD k 0 ∧ (d.next.getD i []).getD k 0 < d.next.length

set_option maxHeartbeats 8000000 in
theorem dRight_spec (w0 : World) (cs : List Value) (d : PDfa) (hD : DfaAt w0 cs d) : Calls Tryz.prog 72 #[.agg cs.toArray] w0 fun e w' => (∃ r, e = .returned (.bool r) ∧ (r = true → DfaR d)) ∧ Goes w0 [] [] w' := by
  obtain ⟨vc, vn, vt, rfl, hC, hN, hT⟩ := hD
  have hg := Goes.refl w0
  have p1 : ∀ {w Fs}, Goes w0 [] Fs w → Calls Tryz.prog 109 #[vc] w _ := fun h => aRight_spec _ _ _ (hC.goes h)
  obtain ⟨an, cn, rfl, hln⟩ := hN.slice
  obtain ⟨at', ct, rfl, hlt⟩ := hT.slice
  obtain ⟨ac, cc, rfl, hlc⟩ := hC.slice
  have no : ∀ {e : Ending}, e = .returned (.bool false) → ∃ r, e = .returned (.bool r) ∧ (r = true → DfaR d) := fun h => ⟨false, h, fun h => by cases h⟩
  refine enter Tryz.func72 rfl (by simp only [Tryz.ntmps72, List.length_cons, List.length_nil, Nat.reduceAdd, Nat.reduceSub, List.replicate_succ, List.replicate_zero, List.cons_append, List.nil_append]; exact rfl) ?_
  by_cases h1 : 1024 < d.next.length
  · repeat' (first | refine zN ?_ | (refine WC.quietG hg ?_; clear hg) | ((with_reducible refine WQ.nilG ?_); intro w hg) | (refine zB ?_; clear hg; intro b w hg; refine WO.fr ?_) | (refine zW ?_; clear hg; intro w hg; refine WO.fr ?_) | (refine op_pureB hg ?_; clear hg; intro w hg c hc; cases c <;> refine WO.fr ?_))
    exact ret1 rfl ⟨no rfl, hg.drop⟩
  by_cases h2 : d.tag.length = d.next.length
  rotate_left
  · repeat' (first | refine zN ?_ | (refine WC.quietG hg ?_; clear hg) | ((with_reducible refine WQ.nilG ?_); intro w hg) | (refine zB ?_; clear hg; intro b w hg; refine WO.fr ?_) | (refine zW ?_; clear hg; intro w hg; refine WO.fr ?_) | (refine op_pureB hg ?_; clear hg; intro w hg c hc; cases c <;> refine WO.fr ?_))
    exact ret1 rfl ⟨no rfl, hg.drop⟩
  by_cases h3 : d.start < -1
  · repeat' (first | refine zN ?_ | (refine WC.quietG hg ?_; clear hg) | ((with_reducible refine WQ.nilG ?_); intro w hg) | (refine zB ?_; clear hg; intro b w hg; refine WO.fr ?_) | (refine zW ?_; clear hg; intro w hg; refine WO.fr ?_) | (refine op_pureB hg ?_; clear hg; intro w hg c hc; cases c <;> refine WO.fr ?_))
    exact ret1 rfl ⟨no rfl, hg.drop⟩
  by_cases h4 : (d.next.length : Int) ≤ d.start
  · repeat' (first | refine zN ?_ | (refine WC.quietG hg ?_; clear hg) | ((with_reducible refine WQ.nilG ?_); intro w hg) | (refine zB ?_; clear hg; intro b w hg; refine WO.fr ?_) | (refine zW ?_; clear hg; intro w hg; refine WO.fr ?_) | (refine op_pureB hg ?_; clear hg; intro w hg c hc; cases c <;> refine WO.fr ?_))
    exact ret1 rfl ⟨no rfl, hg.drop⟩
  cases h5 : aRightB d.cls
  · rw [h5] at p1
    repeat' (first | refine zN ?_ | (refine WC.quietG hg ?_; clear hg) | ((with_reducible refine WQ.nilG ?_); intro w hg) | (refine zB ?_; clear hg; intro b w hg; refine WO.fr ?_) | (refine zW ?_; clear hg; intro w hg; refine WO.fr ?_) | (refine op_pureB hg ?_; clear hg; intro w hg c hc; cases c <;> refine WO.fr ?_))
    exact ret1 rfl ⟨no rfl, hg.drop⟩
  have h6 := h5
  unfold aRightB at h6
  rw [Bool.and_eq_true, decide_eq_true_iff, Option.isSome_iff_exists] at h6
  obtain ⟨hcl, m, hm⟩ := h6
  rw [h5] at p1
  repeat' (first | refine zN ?_ | ((with_reducible refine WQ.nilG ?_); intro w hg) | (refine zB ?_; clear hg; intro b w hg; refine WO.fr ?_) | (refine zW ?_; clear hg; intro w hg; refine WO.fr ?_) | (refine op_pureB hg ?_; clear hg; intro w hg c hc; cases c <;> refine WO.fr ?_))
  have s1 : ∀ {w : World}, (w.heap[b]? = some (.cells [.slice ac d.cls.length cc, .int .i64 d.width, .slice an d.next.length cn, .slice at' d.tag.length ct, .int .i64 d.start].toArray 101 (0, 0))) → w.cell? ⟨b, 3, none⟩ = some (.slice at' d.tag.length ct) := fun h => heap_cell h rfl
  have s2 : ∀ {w : World}, (w.heap[b]? = some (.cells [.slice ac d.cls.length cc, .int .i64 d.width, .slice an d.next.length cn, .slice at' d.tag.length ct, .int .i64 d.start].toArray 101 (0, 0))) → w.cell? ⟨b, 4, none⟩ = some (.int .i64 d.start) := fun h => heap_cell h rfl
  have s3 : ∀ {w : World}, (w.heap[b]? = some (.cells [.slice ac d.cls.length cc, .int .i64 d.width, .slice an d.next.length cn, .slice at' d.tag.length ct, .int .i64 d.start].toArray 101 (0, 0))) → w.cell? ⟨b, 0, none⟩ = some (.slice ac d.cls.length cc) := fun h => heap_cell h rfl
  have s4 : ∀ {w : World}, (w.heap[b]? = some (.cells [.slice ac d.cls.length cc, .int .i64 d.width, .slice an d.next.length cn, .slice at' d.tag.length ct, .int .i64 d.start].toArray 101 (0, 0))) → w.cell? ⟨b, 1, none⟩ = some (.int .i64 d.width) := fun h => heap_cell h rfl
  refine WC.drawn (fun w => w.heap[b]? = some (.cells [.slice ac d.cls.length cc, .int .i64 d.width, .slice an d.next.length cn, .slice at' d.tag.length ct, .int .i64 d.start].toArray 101 (0, 0))) [] hg ?_
  clear hg
  intro w hg
  have hS : (fun w => w.heap[b]? = some (.cells [.slice ac d.cls.length cc, .int .i64 d.width, .slice an d.next.length cn, .slice at' d.tag.length ct, .int .i64 d.start].toArray 101 (0, 0))) w := hg.own (b, .cells [.slice ac d.cls.length cc, .int .i64 d.width, .slice an d.next.length cn, .slice at' d.tag.length ct, .int .i64 d.start].toArray 101 (0, 0)) (by simp)
  refine WA.passM 0 hS ?_
  refine WA.passM 1 hS ?_
  refine WA.passM 2 hS ?_
  first | refine WA.passG 3 hS ?_ | refine WA.passN 3 hS ?_
  first | refine WA.passG 6 hS ?_ | refine WA.passN 6 hS ?_
  first | refine WA.passG 4 hS ?_ | refine WA.passN 4 hS ?_
  first | refine WA.passG 5 hS ?_ | refine WA.passN 5 hS ?_
  first | refine WA.passG 7 hS ?_ | refine WA.passN 7 hS ?_
  refine WA.passM 8 hS ?_
  refine WA.passM 9 hS ?_
  first | refine WA.passG 10 hS ?_ | refine WA.passN 10 hS ?_
  first | refine WA.passG 11 hS ?_ | refine WA.passN 11 hS ?_
  first | refine WA.passG 12 hS ?_ | refine WA.passN 12 hS ?_
  refine WA.passM 13 hS ?_
  refine WA.passM 14 hS ?_
  first | refine WA.passG 15 hS ?_ | refine WA.passN 15 hS ?_
  first | refine WA.passG 17 hS ?_ | refine WA.passN 17 hS ?_
  first | refine WA.passG 16 hS ?_ | refine WA.passN 16 hS ?_
  first | refine WA.passG 18 hS ?_ | refine WA.passN 18 hS ?_
  refine WA.passM 19 hS ?_
  refine WA.passM 20 hS ?_
  first | refine WA.passG 21 hS ?_ | refine WA.passN 21 hS ?_
  first | refine WA.passG 22 hS ?_ | refine WA.passN 22 hS ?_
  refine WA.onlyG 23 ?_
  refine op_pure hg ?_ (hc := p1 hg)
  clear hg hS
  intro w hg
  refine WO.fr ?_
  have hS : (fun w => w.heap[b]? = some (.cells [.slice ac d.cls.length cc, .int .i64 d.width, .slice an d.next.length cn, .slice at' d.tag.length ct, .int .i64 d.start].toArray 101 (0, 0))) w := hg.own (b, .cells [.slice ac d.cls.length cc, .int .i64 d.width, .slice an d.next.length cn, .slice at' d.tag.length ct, .int .i64 d.start].toArray 101 (0, 0)) (by simp)
  refine WO.nilA hS ?_
  first | refine WA.passG 24 hS ?_ | refine WA.passN 24 hS ?_
  refine WA.passM 25 hS ?_
  refine WA.passM 26 hS ?_
  first | refine WA.passG 27 hS ?_ | refine WA.passN 27 hS ?_
  first | refine WA.passG 29 hS ?_ | refine WA.passN 29 hS ?_
  first | refine WA.passG 28 hS ?_ | refine WA.passN 28 hS ?_
  first | refine WA.passG 30 hS ?_ | refine WA.passN 30 hS ?_
  refine WA.onlyG 31 ?_
  refine op_call (aFirst_spec _ _ d.cls m (hC.goes hg) hcl hm) ?_
  rintro _ w ⟨ad, cap, f, rfl, hg2⟩
  replace hg := hg.call0 hg2
  simp only [List.cons_append, List.nil_append] at hg
  clear hg2 hS
  refine ⟨_, rfl, ?_⟩
  refine WO.fr ?_
  by_cases h7 : d.width = m
  rotate_left
  · skip
    have hS : (fun w => w.heap[b]? = some (.cells [.slice ac d.cls.length cc, .int .i64 d.width, .slice an d.next.length cn, .slice at' d.tag.length ct, .int .i64 d.start].toArray 101 (0, 0))) w := hg.own (b, .cells [.slice ac d.cls.length cc, .int .i64 d.width, .slice an d.next.length cn, .slice at' d.tag.length ct, .int .i64 d.start].toArray 101 (0, 0)) (by simp)
    refine WO.nilA hS ?_
    first | refine WA.passG 32 hS ?_ | refine WA.passN 32 hS ?_
    first | refine WA.passG 33 hS ?_ | refine WA.passN 33 hS ?_
    refine WA.passM 34 hS ?_
    refine WA.nil ?_
    clear hS s1 s2 s3 s4 p1
    repeat' (first | refine zN ?_ | ((with_reducible refine WQ.nilG ?_); intro w hg) | (refine zB ?_; clear hg; intro b w hg; refine WO.fr ?_) | (refine zW ?_; clear hg; intro w hg; refine WO.fr ?_) | (refine op_pureB hg ?_; clear hg; intro w hg c hc; cases c <;> refine WO.fr ?_))
    exact ret1 rfl ⟨no rfl, hg.drop⟩
  have hS : (fun w => w.heap[b]? = some (.cells [.slice ac d.cls.length cc, .int .i64 d.width, .slice an d.next.length cn, .slice at' d.tag.length ct, .int .i64 d.start].toArray 101 (0, 0))) w := hg.own (b, .cells [.slice ac d.cls.length cc, .int .i64 d.width, .slice an d.next.length cn, .slice at' d.tag.length ct, .int .i64 d.start].toArray 101 (0, 0)) (by simp)
  refine WO.nilA hS ?_
  first | refine WA.passG 32 hS ?_ | refine WA.passN 32 hS ?_
  first | refine WA.passG 33 hS ?_ | refine WA.passN 33 hS ?_
  refine WA.passM 34 hS ?_
  refine WA.nil ?_
  clear hS s1 s2 s3 s4 p1
  replace hg := hg.drop0
  repeat' (first | refine zN ?_ | ((with_reducible refine WQ.nilG ?_); intro w hg) | (refine zB ?_; clear hg; intro b w hg; refine WO.fr ?_) | (refine zW ?_; clear hg; intro w hg; refine WO.fr ?_) | (refine op_pureB hg ?_; clear hg; intro w hg c hc; cases c <;> refine WO.fr ?_))
  refine WC.loopS [2, 4, 5, 44, 45, 46, 47, 48, 49, 50, 51, 52, 53, 54, 55, 56, 57, 58, 59, 60, 61, 62, 63, 64, 65, 66, 67, 68, 69, 70, 71, 72, 73, 74, 75, 76, 77, 78, 79, 80, 81, 82, 83, 84, 85, 86, 87, 88, 89, 90, 91, 92] (fun xs dd w => ∃ i : Nat, dd = [] ∧ (gt xs 1) = .int .i64 i ∧ i ≤ d.next.length ∧ (∀ j, j < i → -1 ≤ d.tag.getD j 0 ∧ ((d.next.getD j []).length : Int) = d.width ∧ ∀ k, k < (d.next.getD j []).length → -1 ≤ (d.next.getD j []).getD k 0 ∧ (d.next.getD j []).getD k 0 < d.next.length) ∧ Goes w0 [] [[(b, .cells [.slice ac d.cls.length cc, .int .i64 d.width, .slice an d.next.length cn, .slice at' d.tag.length ct, .int .i64 d.start].toArray 101 (0, 0))]] w) (fun xs _ _ => d.next.length - (intOf (gt xs 1)).toNat) ?_ ?_
  · exact ⟨0, rfl, rfl, Nat.zero_le _, by omega, hg⟩
  clear hg
  intro xs d w hlen hI K hK
  replace hlen := len_cons hlen
  obtain ⟨x2, xs, rfl, hlen⟩ := hlen
  replace hlen := len_cons hlen
  obtain ⟨x4, xs, rfl, hlen⟩ := hlen
  replace hlen := len_cons hlen
  obtain ⟨x5, xs, rfl, hlen⟩ := hlen
  replace hlen := len_cons hlen
  obtain ⟨x44, xs, rfl, hlen⟩ := hlen
  replace hlen := len_cons hlen
  obtain ⟨x45, xs, rfl, hlen⟩ := hlen
  replace hlen := len_cons hlen
  obtain ⟨x46, xs, rfl, hlen⟩ := hlen
  replace hlen := len_cons hlen
  obtain ⟨x47, xs, rfl, hlen⟩ := hlen
  replace hlen := len_cons hlen
  obtain ⟨x48, xs, rfl, hlen⟩ := hlen
  replace hlen := len_cons hlen
  obtain ⟨x49, xs, rfl, hlen⟩ := hlen
  replace hlen := len_cons hlen
  obtain ⟨x50, xs, rfl, hlen⟩ := hlen
  replace hlen := len_cons hlen
  obtain ⟨x51, xs, rfl, hlen⟩ := hlen
  replace hlen := len_cons hlen
  obtain ⟨x52, xs, rfl, hlen⟩ := hlen
  replace hlen := len_cons hlen
  obtain ⟨x53, xs, rfl, hlen⟩ := hlen
  replace hlen := len_cons hlen
  obtain ⟨x54, xs, rfl, hlen⟩ := hlen
  replace hlen := len_cons hlen
  obtain ⟨x55, xs, rfl, hlen⟩ := hlen
  replace hlen := len_cons hlen
  obtain ⟨x56, xs, rfl, hlen⟩ := hlen
  replace hlen := len_cons hlen
  obtain ⟨x57, xs, rfl, hlen⟩ := hlen
  replace hlen := len_cons hlen
  obtain ⟨x58, xs, rfl, hlen⟩ := hlen
  replace hlen := len_cons hlen
  obtain ⟨x59, xs, rfl, hlen⟩ := hlen
  replace hlen := len_cons hlen
  obtain ⟨x60, xs, rfl, hlen⟩ := hlen
  replace hlen := len_cons hlen
  obtain ⟨x61, xs, rfl, hlen⟩ := hlen
  replace hlen := len_cons hlen
  obtain ⟨x62, xs, rfl, hlen⟩ := hlen
  replace hlen := len_cons hlen
  obtain ⟨x63, xs, rfl, hlen⟩ := hlen
  replace hlen := len_cons hlen
  obtain ⟨x64, xs, rfl, hlen⟩ := hlen
  replace hlen := len_cons hlen
  obtain ⟨x65, xs, rfl, hlen⟩ := hlen
  replace hlen := len_cons hlen
  obtain ⟨x66, xs, rfl, hlen⟩ := hlen
  replace hlen := len_cons hlen
  obtain ⟨x67, xs, rfl, hlen⟩ := hlen
  replace hlen := len_cons hlen
  obtain ⟨x68, xs, rfl, hlen⟩ := hlen
  replace hlen := len_cons hlen
  obtain ⟨x69, xs, rfl, hlen⟩ := hlen
  replace hlen := len_cons hlen
  obtain ⟨x70, xs, rfl, hlen⟩ := hlen
  replace hlen := len_cons hlen
  obtain ⟨x71, xs, rfl, hlen⟩ := hlen
  replace hlen := len_cons hlen
  obtain ⟨x72, xs, rfl, hlen⟩ := hlen
  replace hlen := len_cons hlen
  obtain ⟨x73, xs, rfl, hlen⟩ := hlen
  replace hlen := len_cons hlen
  obtain ⟨x74, xs, rfl, hlen⟩ := hlen
  replace hlen := len_cons hlen
  obtain ⟨x75, xs, rfl, hlen⟩ := hlen
  replace hlen := len_cons hlen
  obtain ⟨x76, xs, rfl, hlen⟩ := hlen
  replace hlen := len_cons hlen
  obtain ⟨x77, xs, rfl, hlen⟩ := hlen
  replace hlen := len_cons hlen
  obtain ⟨x78, xs, rfl, hlen⟩ := hlen
  replace hlen := len_cons hlen
  obtain ⟨x79, xs, rfl, hlen⟩ := hlen
  replace hlen := len_cons hlen
  obtain ⟨x80, xs, rfl, hlen⟩ := hlen
  replace hlen := len_cons hlen
  obtain ⟨x81, xs, rfl, hlen⟩ := hlen
  replace hlen := len_cons hlen
  obtain ⟨x82, xs, rfl, hlen⟩ := hlen
  replace hlen := len_cons hlen
  obtain ⟨x83, xs, rfl, hlen⟩ := hlen
  replace hlen := len_cons hlen
  obtain ⟨x84, xs, rfl, hlen⟩ := hlen
  replace hlen := len_cons hlen
  obtain ⟨x85, xs, rfl, hlen⟩ := hlen
  replace hlen := len_cons hlen
  obtain ⟨x86, xs, rfl, hlen⟩ := hlen
  replace hlen := len_cons hlen
  obtain ⟨x87, xs, rfl, hlen⟩ := hlen
  replace hlen := len_cons hlen
  obtain ⟨x88, xs, rfl, hlen⟩ := hlen
  replace hlen := len_cons hlen
  obtain ⟨x89, xs, rfl, hlen⟩ := hlen
  replace hlen := len_cons hlen
  obtain ⟨x90, xs, rfl, hlen⟩ := hlen
  replace hlen := len_cons hlen
  obtain ⟨x91, xs, rfl, hlen⟩ := hlen
  replace hlen := len_cons hlen
  obtain ⟨x92, xs, rfl, hlen⟩ := hlen
  replace hlen := len_nil hlen
  subst hlen
  refine WC.frame (by simp only [setAll, List.set_cons_succ, List.set_cons_zero]; exact rfl) ?_
  try simp only [gt] at hI
  obtain ⟨i, rfl, rfl, hi, hA, hg⟩ := hI
  by_cases hlti : i < d.next.length
  rotate_left
  · repeat' (first | refine zN ?_ | (refine WC.quietG hg ?_; clear hg) | ((with_reducible refine WQ.nilG ?_); intro w hg) | (refine zB ?_; clear hg; intro b w hg; refine WO.fr ?_) | (refine zW ?_; clear hg; intro w hg; refine WO.fr ?_) | (refine op_pureB hg ?_; clear hg; intro w hg c hc; cases c <;> refine WO.fr ?_))
    exact ret1 rfl ⟨⟨true, rfl, fun _ => ⟨hcl, ⟨m, hm, h7⟩, by omega, h2, by omega, fun j hj => (hA j (by omega)).1, fun j hj => (hA j (by omega)).2.1, fun j k hj => (hA j (by omega)).2.2 k⟩⟩, hg.drop⟩
  obtain ⟨bn, kn, cap1, row, e1, hrl, hrow, u, rfl, hU⟩ := hN.get hlti
  simp only [Value.slice.injEq, true_and] at e1
  obtain ⟨rfl, rfl⟩ := e1
  rw [Nat.mul_one] at hrow
  obtain ⟨bt, kt, cap2, e2, htc⟩ := hT.get (i := i) (by omega)
  simp only [Value.slice.injEq, true_and] at e2
  obtain ⟨rfl, rfl⟩ := e2
  rw [getRow hlti] at hU
  generalize hre : d.next.getD i [] = row at hU
  obtain ⟨au, cu, rfl, hlu⟩ := hU.slice
  have c1 : ∀ {w Fs}, Goes w0 [] Fs w → w.cell? ⟨bn, kn + i, none⟩ = some (.slice au row.length cu) := fun g => g.cellOld0 (hrow 0 _ rfl)
  have c2 : ∀ {w Fs}, Goes w0 [] Fs w → w.cell? ⟨bt, kt + i, none⟩ = some (.int .i64 (d.tag.getD i 0)) := fun g => g.cellOld0 htc
  clear hrow
  by_cases g1 : d.tag.getD i 0 < -1
  · repeat' (first | refine zN ?_ | (refine WC.quietG hg ?_; clear hg) | ((with_reducible refine WQ.nilG ?_); intro w hg) | (refine zB ?_; clear hg; intro b w hg; refine WO.fr ?_) | (refine zW ?_; clear hg; intro w hg; refine WO.fr ?_) | (refine op_pureB hg ?_; clear hg; intro w hg c hc; cases c <;> refine WO.fr ?_))
    exact ret1 rfl ⟨no rfl, hg.drop⟩
  by_cases g2 : (row.length : Int) = d.width
  rotate_left
  · repeat' (first | refine zN ?_ | (refine WC.quietG hg ?_; clear hg) | ((with_reducible refine WQ.nilG ?_); intro w hg) | (refine zB ?_; clear hg; intro b w hg; refine WO.fr ?_) | (refine zW ?_; clear hg; intro w hg; refine WO.fr ?_) | (refine op_pureB hg ?_; clear hg; intro w hg c hc; cases c <;> refine WO.fr ?_))
    exact ret1 rfl ⟨no rfl, hg.drop⟩
  repeat' (first | refine zN ?_ | (refine WC.quietG hg ?_; clear hg) | ((with_reducible refine WQ.nilG ?_); intro w hg) | (refine zB ?_; clear hg; intro b w hg; refine WO.fr ?_) | (refine zW ?_; clear hg; intro w hg; refine WO.fr ?_) | (refine op_pureB hg ?_; clear hg; intro w hg c hc; cases c <;> refine WO.fr ?_))
  refine WC.loopS [2, 5, 66, 67, 68, 69, 70, 71, 72, 73, 74, 75, 76, 77, 78, 79, 80, 81, 82, 83, 84, 85, 86, 87, 88, 89, 90, 91, 92] (fun xs dd w => ∃ k : Nat, dd = [] ∧ (gt xs 1) = .int .i64 k ∧ k ≤ row.length ∧ (∀ j, j < k → -1 ≤ row.getD j 0 ∧ row.getD j 0 < d.next.length) ∧ Goes w0 [] [[(b, .cells [.slice ac d.cls.length cc, .int .i64 d.width, .slice (some ⟨bn, kn, none⟩) d.next.length cn, .slice (some ⟨bt, kt, none⟩) d.tag.length ct, .int .i64 d.start].toArray 101 (0, 0))]] w) (fun xs _ _ => row.length - (intOf (gt xs 1)).toNat) ?_ ?_
  · exact ⟨0, rfl, rfl, Nat.zero_le _, by omega, hg⟩
  clear hg
  have hK1 := hK
  clear hK
  intro xs d w hlen hI K hK
  replace hlen := len_cons hlen
  obtain ⟨x2, xs, rfl, hlen⟩ := hlen
  replace hlen := len_cons hlen
  obtain ⟨x5, xs, rfl, hlen⟩ := hlen
  replace hlen := len_cons hlen
  obtain ⟨x66, xs, rfl, hlen⟩ := hlen
  replace hlen := len_cons hlen
  obtain ⟨x67, xs, rfl, hlen⟩ := hlen
  replace hlen := len_cons hlen
  obtain ⟨x68, xs, rfl, hlen⟩ := hlen
  replace hlen := len_cons hlen
  obtain ⟨x69, xs, rfl, hlen⟩ := hlen
  replace hlen := len_cons hlen
  obtain ⟨x70, xs, rfl, hlen⟩ := hlen
  replace hlen := len_cons hlen
  obtain ⟨x71, xs, rfl, hlen⟩ := hlen
  replace hlen := len_cons hlen
  obtain ⟨x72, xs, rfl, hlen⟩ := hlen
  replace hlen := len_cons hlen
  obtain ⟨x73, xs, rfl, hlen⟩ := hlen
  replace hlen := len_cons hlen
  obtain ⟨x74, xs, rfl, hlen⟩ := hlen
  replace hlen := len_cons hlen
  obtain ⟨x75, xs, rfl, hlen⟩ := hlen
  replace hlen := len_cons hlen
  obtain ⟨x76, xs, rfl, hlen⟩ := hlen
  replace hlen := len_cons hlen
  obtain ⟨x77, xs, rfl, hlen⟩ := hlen
  replace hlen := len_cons hlen
  obtain ⟨x78, xs, rfl, hlen⟩ := hlen
  replace hlen := len_cons hlen
  obtain ⟨x79, xs, rfl, hlen⟩ := hlen
  replace hlen := len_cons hlen
  obtain ⟨x80, xs, rfl, hlen⟩ := hlen
  replace hlen := len_cons hlen
  obtain ⟨x81, xs, rfl, hlen⟩ := hlen
  replace hlen := len_cons hlen
  obtain ⟨x82, xs, rfl, hlen⟩ := hlen
  replace hlen := len_cons hlen
  obtain ⟨x83, xs, rfl, hlen⟩ := hlen
  replace hlen := len_cons hlen
  obtain ⟨x84, xs, rfl, hlen⟩ := hlen
  replace hlen := len_cons hlen
  obtain ⟨x85, xs, rfl, hlen⟩ := hlen
  replace hlen := len_cons hlen
  obtain ⟨x86, xs, rfl, hlen⟩ := hlen
  replace hlen := len_cons hlen
  obtain ⟨x87, xs, rfl, hlen⟩ := hlen
  replace hlen := len_cons hlen
  obtain ⟨x88, xs, rfl, hlen⟩ := hlen
  replace hlen := len_cons hlen
  obtain ⟨x89, xs, rfl, hlen⟩ := hlen
  replace hlen := len_cons hlen
  obtain ⟨x90, xs, rfl, hlen⟩ := hlen
  replace hlen := len_cons hlen
  obtain ⟨x91, xs, rfl, hlen⟩ := hlen
  replace hlen := len_cons hlen
  obtain ⟨x92, xs, rfl, hlen⟩ := hlen
  replace hlen := len_nil hlen
  subst hlen
  refine WC.frame (by simp only [setAll, List.set_cons_succ, List.set_cons_zero]; exact rfl) ?_
  try simp only [gt] at hI
  obtain ⟨k, rfl, rfl, hk, hB, hg⟩ := hI
  by_cases hltk : k < row.length
  rotate_left
  · repeat' (first | refine zN ?_ | (refine WC.quietG hg ?_; clear hg) | ((with_reducible refine WQ.nilG ?_); intro w hg) | (refine zB ?_; clear hg; intro b w hg; refine WO.fr ?_) | (refine zW ?_; clear hg; intro w hg; refine WO.fr ?_) | (refine op_pureB hg ?_; clear hg; intro w hg c hc; cases c <;> refine WO.fr ?_))
    clear hK
    have hK := hK1
    with_reducible refine QX.norm ?_
    refine hK _ _ _ ?_ ?_ ?_
    · simp only [setAll, List.map_cons, List.map_nil, gt, List.set_cons_succ, List.set_cons_zero]
    all_goals try simp only [List.map_cons, List.map_nil, gt, intOf]
    · refine ⟨i + 1, trivial, rfl, by omega, fun j hj => ?_, hg⟩
      by_cases e : j = i
      · rw [e, hre]; exact ⟨by omega, g2, fun k' hk' => hB k' (by omega)⟩
      · exact hA j (by omega)
    · omega
  obtain ⟨bu, ku, cap3, e3, huc⟩ := hU.get hltk
  simp only [Value.slice.injEq, true_and] at e3
  obtain ⟨rfl, rfl⟩ := e3
  have c3 : ∀ {w Fs}, Goes w0 [] Fs w → w.cell? ⟨bu, ku + k, none⟩ = some (.int .i64 (row.getD k 0)) := fun g => g.cellOld0 huc
  by_cases g3 : row.getD k 0 < -1
  · repeat' (first | refine zN ?_ | (refine WC.quietG hg ?_; clear hg) | ((with_reducible refine WQ.nilG ?_); intro w hg) | (refine zB ?_; clear hg; intro b w hg; refine WO.fr ?_) | (refine zW ?_; clear hg; intro w hg; refine WO.fr ?_) | (refine op_pureB hg ?_; clear hg; intro w hg c hc; cases c <;> refine WO.fr ?_))
    exact ret1 rfl ⟨no rfl, hg.drop⟩
  by_cases g4 : (d.next.length : Int) ≤ row.getD k 0
  · repeat' (first | refine zN ?_ | (refine WC.quietG hg ?_; clear hg) | ((with_reducible refine WQ.nilG ?_); intro w hg) | (refine zB ?_; clear hg; intro b w hg; refine WO.fr ?_) | (refine zW ?_; clear hg; intro w hg; refine WO.fr ?_) | (refine op_pureB hg ?_; clear hg; intro w hg c hc; cases c <;> refine WO.fr ?_))
    exact ret1 rfl ⟨no rfl, hg.drop⟩
  repeat' (first | refine zN ?_ | (refine WC.quietG hg ?_; clear hg) | ((with_reducible refine WQ.nilG ?_); intro w hg) | (refine zB ?_; clear hg; intro b w hg; refine WO.fr ?_) | (refine zW ?_; clear hg; intro w hg; refine WO.fr ?_) | (refine op_pureB hg ?_; clear hg; intro w hg c hc; cases c <;> refine WO.fr ?_))
  with_reducible refine QX.norm ?_
  refine hK _ _ _ ?_ ?_ ?_
  · simp only [setAll, List.map_cons, List.map_nil, gt, List.set_cons_succ, List.set_cons_zero]
  all_goals try simp only [List.map_cons, List.map_nil, gt, intOf]
  · refine ⟨k + 1, trivial, rfl, by omega, fun j hj => ?_, hg⟩
    by_cases e : j = k
    · rw [e]; omega
    · exact hB j (by omega)
  · omega
theorem dTag_spec (w0 : World) (cs : List Value) (d : PDfa) (hD : DfaAt w0 cs d) : Calls Tryz.prog 73 #[.agg cs.toArray, .int .i64 d.start] w0 fun e w' => (∃ t, e = .returned (.int .i64 t) ∧ (0 ≤ d.start → d.start < d.tag.length → t = d.tag.getD d.start.toNat 0)) ∧ Goes w0 [] [] w' := by
  obtain ⟨vc, vn, vt, rfl, hC, hN, hT⟩ := hD
  have hg := Goes.refl w0
  have hT0 := hT
  obtain ⟨at', ct, rfl, hlt⟩ := hT.slice
  refine enter Tryz.func73 rfl (by simp only [Tryz.ntmps73, List.length_cons, List.length_nil, Nat.reduceAdd, Nat.reduceSub, List.replicate_succ, List.replicate_zero, List.cons_append, List.nil_append]; exact rfl) ?_
  by_cases h1 : d.start < 0
  · repeat' (first | refine zN ?_ | (refine WC.quietG hg ?_; clear hg) | ((with_reducible refine WQ.nilG ?_); intro w hg) | (refine zB ?_; clear hg; intro b w hg; refine WO.fr ?_) | (refine zW ?_; clear hg; intro w hg; refine WO.fr ?_) | (refine op_pureB hg ?_; clear hg; intro w hg c hc; cases c <;> refine WO.fr ?_))
    exact ret1 rfl ⟨⟨-1, rfl, fun h => by omega⟩, hg.drop⟩
  by_cases h2 : (d.tag.length : Int) ≤ d.start
  · repeat' (first | refine zN ?_ | (refine WC.quietG hg ?_; clear hg) | ((with_reducible refine WQ.nilG ?_); intro w hg) | (refine zB ?_; clear hg; intro b w hg; refine WO.fr ?_) | (refine zW ?_; clear hg; intro w hg; refine WO.fr ?_) | (refine op_pureB hg ?_; clear hg; intro w hg c hc; cases c <;> refine WO.fr ?_))
    exact ret1 rfl ⟨⟨-1, rfl, fun _ h => by omega⟩, hg.drop⟩
  obtain ⟨bt, kt, cap2, e2, htc⟩ := hT0.get (i := d.start.toNat) (by omega)
  simp only [Value.slice.injEq, true_and] at e2
  obtain ⟨rfl, rfl⟩ := e2
  have c2 : ∀ {w Fs}, Goes w0 [] Fs w → w.cell? ⟨bt, kt + d.start.toNat, none⟩ = some (.int .i64 (d.tag.getD d.start.toNat 0)) := fun g => g.cellOld0 htc
  repeat' (first | refine zN ?_ | (refine WC.quietG hg ?_; clear hg) | ((with_reducible refine WQ.nilG ?_); intro w hg) | (refine zB ?_; clear hg; intro b w hg; refine WO.fr ?_) | (refine zW ?_; clear hg; intro w hg; refine WO.fr ?_) | (refine op_pureB hg ?_; clear hg; intro w hg c hc; cases c <;> refine WO.fr ?_))
  exact ret1 rfl ⟨⟨_, rfl, fun _ _ => rfl⟩, hg.drop⟩
set_option maxHeartbeats 1000000 in
theorem dFar_spec (w0 : World) (cs : List Value) (d : PDfa) (hD : DfaAt w0 cs d) : Calls Tryz.prog 36 #[.agg cs.toArray] w0 fun e w' => (∃ r, e = .returned (.bool r)) ∧ Goes w0 [] [] w' := by
  obtain ⟨vc, vn, vt, rfl, hC, hN, hT⟩ := hD
  have hg := Goes.refl w0
  obtain ⟨an, cn, rfl, hln⟩ := hN.slice
  obtain ⟨at', ct, rfl, hlt⟩ := hT.slice
  obtain ⟨ac, cc, rfl, hlc⟩ := hC.slice
  refine enter Tryz.func36 rfl (by simp only [Tryz.ntmps36, List.length_cons, List.length_nil, Nat.reduceAdd, Nat.reduceSub, List.replicate_succ, List.replicate_zero, List.cons_append, List.nil_append]; exact rfl) ?_
  by_cases h1 : 60 < d.next.length
  · repeat' (first | refine zN ?_ | (refine WC.quietG hg ?_; clear hg) | ((with_reducible refine WQ.nilG ?_); intro w hg) | (refine zB ?_; clear hg; intro b w hg; refine WO.fr ?_) | (refine zW ?_; clear hg; intro w hg; refine WO.fr ?_) | (refine op_pureB hg ?_; clear hg; intro w hg c hc; cases c <;> refine WO.fr ?_))
    exact ret1 rfl ⟨⟨_, rfl⟩, hg.drop⟩
  by_cases h2 : 300 < d.cls.length
  · repeat' (first | refine zN ?_ | (refine WC.quietG hg ?_; clear hg) | ((with_reducible refine WQ.nilG ?_); intro w hg) | (refine zB ?_; clear hg; intro b w hg; refine WO.fr ?_) | (refine zW ?_; clear hg; intro w hg; refine WO.fr ?_) | (refine op_pureB hg ?_; clear hg; intro w hg c hc; cases c <;> refine WO.fr ?_))
    exact ret1 rfl ⟨⟨_, rfl⟩, hg.drop⟩
  by_cases h3 : 100 < d.tag.length
  · repeat' (first | refine zN ?_ | (refine WC.quietG hg ?_; clear hg) | ((with_reducible refine WQ.nilG ?_); intro w hg) | (refine zB ?_; clear hg; intro b w hg; refine WO.fr ?_) | (refine zW ?_; clear hg; intro w hg; refine WO.fr ?_) | (refine op_pureB hg ?_; clear hg; intro w hg c hc; cases c <;> refine WO.fr ?_))
    exact ret1 rfl ⟨⟨_, rfl⟩, hg.drop⟩
  repeat' (first | refine zN ?_ | (refine WC.quietG hg ?_; clear hg) | ((with_reducible refine WQ.nilG ?_); intro w hg) | (refine zB ?_; clear hg; intro b w hg; refine WO.fr ?_) | (refine zW ?_; clear hg; intro w hg; refine WO.fr ?_) | (refine op_pureB hg ?_; clear hg; intro w hg c hc; cases c <;> refine WO.fr ?_))
  refine WC.loopS [2, 3, 20, 21, 22, 23, 24, 25, 26, 27, 28, 29, 30, 31, 32, 33] (fun xs dd w => ∃ i : Nat, dd = [] ∧ (gt xs 1) = .int .i64 i ∧ i ≤ d.next.length ∧ Goes w0 [] [[(b, .cells [.slice ac d.cls.length cc, .int .i64 d.width, .slice an d.next.length cn, .slice at' d.tag.length ct, .int .i64 d.start].toArray 101 (0, 0))]] w) (fun xs _ _ => d.next.length - (intOf (gt xs 1)).toNat) ?_ ?_
  · exact ⟨0, rfl, rfl, Nat.zero_le _, hg⟩
  clear hg
  intro xs d w hlen hI K hK
  replace hlen := len_cons hlen
  obtain ⟨x2, xs, rfl, hlen⟩ := hlen
  replace hlen := len_cons hlen
  obtain ⟨x3, xs, rfl, hlen⟩ := hlen
  replace hlen := len_cons hlen
  obtain ⟨x20, xs, rfl, hlen⟩ := hlen
  replace hlen := len_cons hlen
  obtain ⟨x21, xs, rfl, hlen⟩ := hlen
  replace hlen := len_cons hlen
  obtain ⟨x22, xs, rfl, hlen⟩ := hlen
  replace hlen := len_cons hlen
  obtain ⟨x23, xs, rfl, hlen⟩ := hlen
  replace hlen := len_cons hlen
  obtain ⟨x24, xs, rfl, hlen⟩ := hlen
  replace hlen := len_cons hlen
  obtain ⟨x25, xs, rfl, hlen⟩ := hlen
  replace hlen := len_cons hlen
  obtain ⟨x26, xs, rfl, hlen⟩ := hlen
  replace hlen := len_cons hlen
  obtain ⟨x27, xs, rfl, hlen⟩ := hlen
  replace hlen := len_cons hlen
  obtain ⟨x28, xs, rfl, hlen⟩ := hlen
  replace hlen := len_cons hlen
  obtain ⟨x29, xs, rfl, hlen⟩ := hlen
  replace hlen := len_cons hlen
  obtain ⟨x30, xs, rfl, hlen⟩ := hlen
  replace hlen := len_cons hlen
  obtain ⟨x31, xs, rfl, hlen⟩ := hlen
  replace hlen := len_cons hlen
  obtain ⟨x32, xs, rfl, hlen⟩ := hlen
  replace hlen := len_cons hlen
  obtain ⟨x33, xs, rfl, hlen⟩ := hlen
  replace hlen := len_nil hlen
  subst hlen
  refine WC.frame (by simp only [setAll, List.set_cons_succ, List.set_cons_zero]; exact rfl) ?_
  try simp only [gt] at hI
  obtain ⟨i, rfl, rfl, hi, hg⟩ := hI
  by_cases hlti : i < d.next.length
  rotate_left
  · repeat' (first | refine zN ?_ | (refine WC.quietG hg ?_; clear hg) | ((with_reducible refine WQ.nilG ?_); intro w hg) | (refine zB ?_; clear hg; intro b w hg; refine WO.fr ?_) | (refine zW ?_; clear hg; intro w hg; refine WO.fr ?_) | (refine op_pureB hg ?_; clear hg; intro w hg c hc; cases c <;> refine WO.fr ?_))
    exact ret1 rfl ⟨⟨_, rfl⟩, hg.drop⟩
  obtain ⟨bn, kn, cap1, row, e1, hrl, hrow, u, rfl, hU⟩ := hN.get hlti
  simp only [Value.slice.injEq, true_and] at e1
  obtain ⟨rfl, rfl⟩ := e1
  rw [Nat.mul_one] at hrow
  obtain ⟨au, cu, rfl, hlu⟩ := hU.slice
  have c1 : ∀ {w Fs}, Goes w0 [] Fs w → w.cell? ⟨bn, kn + i, none⟩ = some (.slice au d.next[i].length cu) := fun g => g.cellOld0 (hrow 0 _ rfl)
  clear hrow
  by_cases h4 : 260 < d.next[i].length
  · repeat' (first | refine zN ?_ | (refine WC.quietG hg ?_; clear hg) | ((with_reducible refine WQ.nilG ?_); intro w hg) | (refine zB ?_; clear hg; intro b w hg; refine WO.fr ?_) | (refine zW ?_; clear hg; intro w hg; refine WO.fr ?_) | (refine op_pureB hg ?_; clear hg; intro w hg c hc; cases c <;> refine WO.fr ?_))
    exact ret1 rfl ⟨⟨_, rfl⟩, hg.drop⟩
  repeat' (first | refine zN ?_ | (refine WC.quietG hg ?_; clear hg) | ((with_reducible refine WQ.nilG ?_); intro w hg) | (refine zB ?_; clear hg; intro b w hg; refine WO.fr ?_) | (refine zW ?_; clear hg; intro w hg; refine WO.fr ?_) | (refine op_pureB hg ?_; clear hg; intro w hg c hc; cases c <;> refine WO.fr ?_))
  with_reducible refine QX.norm ?_
  refine hK _ _ _ ?_ ?_ ?_
  · simp only [setAll, List.map_cons, List.map_nil, gt, List.set_cons_succ, List.set_cons_zero]
  all_goals try simp only [List.map_cons, List.map_nil, gt, intOf]
  · exact ⟨i + 1, trivial, rfl, by omega, hg⟩
  · omega
end Go.Proofs.YtkdidefghbeabaaGreat
