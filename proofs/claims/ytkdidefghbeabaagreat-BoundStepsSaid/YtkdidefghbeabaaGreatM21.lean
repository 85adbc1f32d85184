/- The jobs' steps: peek, take. -/
import Derived.Test.YtkdidefghbeabaaGreatM18
import Derived.Test.YtkdidefghbeabaaGreatM20
namespace Go.Proofs.YtkdidefghbeabaaGreat
open Go Go.RowKit
set_option maxRecDepth 10000
set_option linter.unusedSimpArgs false
set_option linter.unusedVariables false
/-- How many steps are still to come. -/
def pot (p : Prm) (B : Nat) (s : WS) (j : JB) (σ : Option SC) : Nat := if j.fn = 48 then s.low - s.fl else if j.fn = 51 ∨ (j.fn = 50 ∧ 1 ≤ j.n ∧ j.n ≤ p.ahead) then potL B s.all.length j.left σ else 0
theorem pot_look {p : Prm} {B : Nat} {s : WS} {j : JB} {σ : Option SC} (h : j.fn = 51 ∨ (j.fn = 50 ∧ 1 ≤ j.n ∧ j.n ≤ p.ahead)) : pot p B s j σ = potL B s.all.length j.left σ := by
  unfold pot
  rw [if_neg, if_pos h]
  rcases h with h | h
  · rw [h]; decide
  · rw [h.1]; decide
theorem pot_mono {p : Prm} {B : Nat} {s s' : WS} {j : JB} {σ : Option SC} (h1 : s'.all = s.all) (h2 : s'.low = s.low) (h3 : s.fl ≤ s'.fl) : pot p B s' j σ ≤ pot p B s j σ := by
  unfold pot
  split
  · omega
  · rw [h1]; exact Nat.le_refl _
structure JOK (p : Prm) (j : JB) : Prop where
  pk : j.fn = 50 → 1 ≤ j.n → j.n ≤ p.ahead → 1 ≤ j.left ∧ j.left ≤ p.ahead
  tk : j.fn = 51 → j.left = 1
/-- What a job's step does. -/
def Stepped (W : World) (pc pj : Nat) (vm vd va : Value) (L : PLex) (p : Prm) (B T : Nat) (x : CU) (s : WS) (j : JB) (σ : Option SC) (Fs : List Frag) (e : Ending) (w' : World) : Prop :=
  ∃ (er n : Int) (t : Tok) (done : Bool) (j' : JB) (fj' : Frag) (σ' : Option SC) (s' : WS) (x' : CU) (T' : Nat), e = .returned (.tuple #[resV er n t, .bool done]) ∧ SlotOK vm vd va L j'.ps fj' σ' ∧
    j' = { j with at' := j'.at', md := j'.md, left := j'.left, ps := j'.ps } ∧ T' ≤ T + 2 ∧
    (done = false → T' = T ∧ s'.all = s.all ∧ s'.low = s.low ∧ s.fl ≤ s'.fl ∧ nearO B s.all.length σ' ∧ pot p B s' j' σ' < pot p B s j σ ∧ JOK p j') ∧
    Cur W pc vm vd va L p T' x' s' (jF pj j' :: fj' :: Fs) w'
section
variable {W : World} {pc pj : Nat} {vm vd va : Value} {L : PLex} {p : Prm} {T : Nat} {x : CU} {s : WS} {j : JB} {fj : Frag} {Fs : List Frag} {w : World} {σ : Option SC}
set_option maxHeartbeats 4000000 in
theorem none_spec {B : Nat} (hSl : SlotOK vm vd va L j.ps fj σ) (hC : Cur W pc vm vd va L p T x s (jF pj j :: fj :: Fs) w) :
    Calls Tryz.prog 57 #[.pointer (some ⟨pc, 0, none⟩), .pointer (some ⟨pj, 0, none⟩)] w (Stepped W pc pj vm vd va L p B T x s j σ Fs) := by
  obtain ⟨sl, fw, fm, fa, fB, hK, hg⟩ := hC
  have p1 : ∀ {w' Fs}, Goes W [] Fs w' → Calls Tryz.prog 31 #[.int .i64 1] w' _ := fun h => answer_spec _ 1
  simp only [resV, Tok.none] at p1
  refine enter Tryz.func57 rfl (by simp only [Tryz.ntmps57, List.length_cons, List.length_nil, Nat.reduceAdd, Nat.reduceSub, List.replicate_succ, List.replicate_zero, List.cons_append, List.nil_append]; exact rfl) ?_
  repeat' (first | refine zN ?_ | ((with_reducible refine WQ.nilG ?_); intro w hg) | (refine zB ?_; clear hg; intro b w hg; refine WO.fr ?_) | (refine zW ?_; clear hg; intro w hg; refine WO.fr ?_) | (refine op_pureB hg ?_; clear hg; intro w hg c hc; cases c <;> refine WO.fr ?_))
  exact ret (.cells rfl (by first | with_reducible assumption | ((with_reducible apply Cells.ldn); (first | with_reducible assumption | ((with_reducible apply hg.cells0); with_reducible assumption) | with_reducible exact r1 hg | with_reducible exact r2 hg | with_reducible exact r3 hg | with_reducible exact r4 hg | with_reducible exact r5 hg | with_reducible exact t1 hs | with_reducible exact t2 hs | with_reducible exact t3 hs | with_reducible exact t4 hs); exact rfl) | ((with_reducible apply CellsAt.ldn (hg := hg)); (repeat (first | ((with_reducible apply CellsAt.whole); exact rfl) | ((with_reducible apply CellsAt.here) <;> first | with_reducible assumption | (simp only [List.drop_zero, List.drop_succ_cons, List.take_succ_cons, List.take_zero]; exact rfl) | exact rfl) | with_reducible apply CellsAt.more | with_reducible apply CellsAt.next)); done)) (.tmp rfl .nil)) ⟨1, 0, Tok.none, true, j, fj, σ, s, x, T, rfl, hSl, rfl, by omega, fun h => (by cases h), sl, fw, fm, fa, fB, hK, hg.drop0⟩
set_option maxHeartbeats 8000000 in
theorem peek_spec {B : Nat} (hB : p.bytes = B) (hp : p.right = true) (hL : LexAt W [vm, vd, va] L) (hok : LexOK L) (hfn : j.fn = 50) (hJ : JOK p j) (hn : nearO B s.all.length σ) (hSl : SlotOK vm vd va L j.ps fj σ) (hC : Cur W pc vm vd va L p T x s (jF pj j :: fj :: Fs) w) :
    Calls Tryz.prog 50 #[.pointer (some ⟨pc, 0, none⟩), .pointer (some ⟨pj, 0, none⟩)] w (Stepped W pc pj vm vd va L p B T x s j σ Fs) := by
  obtain ⟨sl, fw, fm, fa, fB, hK, hg⟩ := hC
  have hr := right_iff.1 hp
  have p1 : ∀ {w' Fs}, Goes W [] Fs w' → Calls Tryz.prog 31 #[.int .i64 1] w' _ := fun h => answer_spec _ 1
  simp only [resV, Tok.none] at p1
  have s1 : ∀ {w : World}, (w.heap[pj]? = some (.cells [.int .i64 j.kind, .int .i64 j.n, .string (str j.data), .int .i64 j.steps, .bool j.done, .int .i64 j.at', .int .i64 j.md, .int .i64 j.left, ptrO j.ps, .func (.func j.fn) #[] #[]].toArray 86 (0, 0)) ∧ w.heap[pc]? = some (.cells [vm, vd, va, .int .i64 p.bytes, .int .i64 p.trail, .int .i64 p.marks, .int .i64 p.ahead, .int .i64 p.tickets, .int .i64 p.retries, .int .i64 p.step, .pointer (some ⟨x.pw, 0, none⟩), .bool x.closed, .int .i64 x.na, .int .i64 x.nmd, .int .i64 x.dp, .slice x.sa x.sn x.sc, .pointer (some ⟨x.pm, 0, none⟩), .int .i64 x.ep, .int .i64 x.aa, .int .i64 x.amd, .int .i64 x.al, .int .i64 x.ae, ptrO x.ps].toArray 82 (0, 0))) → w.cell? ⟨pj, 1, none⟩ = some (.int .i64 j.n) := fun h => heap_cell h.1 rfl
  have s2 : ∀ {w : World}, (w.heap[pj]? = some (.cells [.int .i64 j.kind, .int .i64 j.n, .string (str j.data), .int .i64 j.steps, .bool j.done, .int .i64 j.at', .int .i64 j.md, .int .i64 j.left, ptrO j.ps, .func (.func j.fn) #[] #[]].toArray 86 (0, 0)) ∧ w.heap[pc]? = some (.cells [vm, vd, va, .int .i64 p.bytes, .int .i64 p.trail, .int .i64 p.marks, .int .i64 p.ahead, .int .i64 p.tickets, .int .i64 p.retries, .int .i64 p.step, .pointer (some ⟨x.pw, 0, none⟩), .bool x.closed, .int .i64 x.na, .int .i64 x.nmd, .int .i64 x.dp, .slice x.sa x.sn x.sc, .pointer (some ⟨x.pm, 0, none⟩), .int .i64 x.ep, .int .i64 x.aa, .int .i64 x.amd, .int .i64 x.al, .int .i64 x.ae, ptrO x.ps].toArray 82 (0, 0))) → w.cell? ⟨pc, 6, none⟩ = some (.int .i64 p.ahead) := fun h => heap_cell h.2 rfl
  simp only [cuF, jF] at hg
  by_cases h1 : j.n < 1
  · refine enter Tryz.func50 rfl (by simp only [Tryz.ntmps50, List.length_cons, List.length_nil, Nat.reduceAdd, Nat.reduceSub, List.replicate_succ, List.replicate_zero, List.cons_append, List.nil_append]; exact rfl) ?_
    repeat' (first | refine zN ?_ | ((with_reducible refine WQ.nilG ?_); intro w hg) | (refine zB ?_; clear hg; intro b w hg; refine WO.fr ?_) | (refine zW ?_; clear hg; intro w hg; refine WO.fr ?_) | (refine op_pureB hg ?_; clear hg; intro w hg c hc; cases c <;> refine WO.fr ?_))
    refine WC.drawn (fun w => w.heap[pj]? = some (.cells [.int .i64 j.kind, .int .i64 j.n, .string (str j.data), .int .i64 j.steps, .bool j.done, .int .i64 j.at', .int .i64 j.md, .int .i64 j.left, ptrO j.ps, .func (.func j.fn) #[] #[]].toArray 86 (0, 0)) ∧ w.heap[pc]? = some (.cells [vm, vd, va, .int .i64 p.bytes, .int .i64 p.trail, .int .i64 p.marks, .int .i64 p.ahead, .int .i64 p.tickets, .int .i64 p.retries, .int .i64 p.step, .pointer (some ⟨x.pw, 0, none⟩), .bool x.closed, .int .i64 x.na, .int .i64 x.nmd, .int .i64 x.dp, .slice x.sa x.sn x.sc, .pointer (some ⟨x.pm, 0, none⟩), .int .i64 x.ep, .int .i64 x.aa, .int .i64 x.amd, .int .i64 x.al, .int .i64 x.ae, ptrO x.ps].toArray 82 (0, 0))) [] hg ?_
    clear hg
    intro w hg
    have hS : (fun w => w.heap[pj]? = some (.cells [.int .i64 j.kind, .int .i64 j.n, .string (str j.data), .int .i64 j.steps, .bool j.done, .int .i64 j.at', .int .i64 j.md, .int .i64 j.left, ptrO j.ps, .func (.func j.fn) #[] #[]].toArray 86 (0, 0)) ∧ w.heap[pc]? = some (.cells [vm, vd, va, .int .i64 p.bytes, .int .i64 p.trail, .int .i64 p.marks, .int .i64 p.ahead, .int .i64 p.tickets, .int .i64 p.retries, .int .i64 p.step, .pointer (some ⟨x.pw, 0, none⟩), .bool x.closed, .int .i64 x.na, .int .i64 x.nmd, .int .i64 x.dp, .slice x.sa x.sn x.sc, .pointer (some ⟨x.pm, 0, none⟩), .int .i64 x.ep, .int .i64 x.aa, .int .i64 x.amd, .int .i64 x.al, .int .i64 x.ae, ptrO x.ps].toArray 82 (0, 0))) w := ⟨hg.own (pj, .cells [.int .i64 j.kind, .int .i64 j.n, .string (str j.data), .int .i64 j.steps, .bool j.done, .int .i64 j.at', .int .i64 j.md, .int .i64 j.left, ptrO j.ps, .func (.func j.fn) #[] #[]].toArray 86 (0, 0)) (by simp), hg.own (pc, .cells [vm, vd, va, .int .i64 p.bytes, .int .i64 p.trail, .int .i64 p.marks, .int .i64 p.ahead, .int .i64 p.tickets, .int .i64 p.retries, .int .i64 p.step, .pointer (some ⟨x.pw, 0, none⟩), .bool x.closed, .int .i64 x.na, .int .i64 x.nmd, .int .i64 x.dp, .slice x.sa x.sn x.sc, .pointer (some ⟨x.pm, 0, none⟩), .int .i64 x.ep, .int .i64 x.aa, .int .i64 x.amd, .int .i64 x.al, .int .i64 x.ae, ptrO x.ps].toArray 82 (0, 0)) (by simp)⟩
    refine WA.passM 0 hS ?_
    refine WA.passM 1 hS ?_
    refine WA.passM 2 hS ?_
    refine WA.passM 3 hS ?_
    refine WA.passM 4 hS ?_
    refine WA.passM 5 hS ?_
    refine WA.passM 6 hS ?_
    first | refine WA.passG 7 hS ?_ | refine WA.passN 7 hS ?_
    first | refine WA.passG 8 hS ?_ | refine WA.passN 8 hS ?_
    first | refine WA.passG 9 hS ?_ | refine WA.passN 9 hS ?_
    first | refine WA.passG 10 hS ?_ | refine WA.passN 10 hS ?_
    first | refine WA.passG 12 hS ?_ | refine WA.passN 12 hS ?_
    first | refine WA.passG 13 hS ?_ | refine WA.passN 13 hS ?_
    first | refine WA.passG 14 hS ?_ | refine WA.passN 14 hS ?_
    first | refine WA.passG 15 hS ?_ | refine WA.passN 15 hS ?_
    first | refine WA.passG 11 hS ?_ | refine WA.passN 11 hS ?_
    first | refine WA.passG 16 hS ?_ | refine WA.passN 16 hS ?_
    first | refine WA.passG 17 hS ?_ | refine WA.passN 17 hS ?_
    refine WA.passM 18 hS ?_
    refine WA.nil ?_
    clear hS s1 s2
    repeat' (first | refine zN ?_ | ((with_reducible refine WQ.nilG ?_); intro w hg) | (refine zB ?_; clear hg; intro b w hg; refine WO.fr ?_) | (refine zW ?_; clear hg; intro w hg; refine WO.fr ?_) | (refine op_pureB hg ?_; clear hg; intro w hg c hc; cases c <;> refine WO.fr ?_))
    exact ret (.cells rfl (by first | with_reducible assumption | ((with_reducible apply Cells.ldn); (first | with_reducible assumption | ((with_reducible apply hg.cells0); with_reducible assumption) | with_reducible exact r1 hg | with_reducible exact r2 hg | with_reducible exact r3 hg | with_reducible exact r4 hg | with_reducible exact r5 hg | with_reducible exact t1 hs | with_reducible exact t2 hs | with_reducible exact t3 hs | with_reducible exact t4 hs); exact rfl) | ((with_reducible apply CellsAt.ldn (hg := hg)); (repeat (first | ((with_reducible apply CellsAt.whole); exact rfl) | ((with_reducible apply CellsAt.here) <;> first | with_reducible assumption | (simp only [List.drop_zero, List.drop_succ_cons, List.take_succ_cons, List.take_zero]; exact rfl) | exact rfl) | with_reducible apply CellsAt.more | with_reducible apply CellsAt.next)); done)) (.tmp rfl .nil)) ⟨1, 0, Tok.none, true, j, fj, σ, s, x, T, rfl, hSl, rfl, by omega, fun h => (by cases h), sl, fw, fm, fa, fB, hK, hg.drop0⟩
  by_cases h2 : p.ahead < j.n
  · refine enter Tryz.func50 rfl (by simp only [Tryz.ntmps50, List.length_cons, List.length_nil, Nat.reduceAdd, Nat.reduceSub, List.replicate_succ, List.replicate_zero, List.cons_append, List.nil_append]; exact rfl) ?_
    repeat' (first | refine zN ?_ | ((with_reducible refine WQ.nilG ?_); intro w hg) | (refine zB ?_; clear hg; intro b w hg; refine WO.fr ?_) | (refine zW ?_; clear hg; intro w hg; refine WO.fr ?_) | (refine op_pureB hg ?_; clear hg; intro w hg c hc; cases c <;> refine WO.fr ?_))
    refine WC.drawn (fun w => w.heap[pj]? = some (.cells [.int .i64 j.kind, .int .i64 j.n, .string (str j.data), .int .i64 j.steps, .bool j.done, .int .i64 j.at', .int .i64 j.md, .int .i64 j.left, ptrO j.ps, .func (.func j.fn) #[] #[]].toArray 86 (0, 0)) ∧ w.heap[pc]? = some (.cells [vm, vd, va, .int .i64 p.bytes, .int .i64 p.trail, .int .i64 p.marks, .int .i64 p.ahead, .int .i64 p.tickets, .int .i64 p.retries, .int .i64 p.step, .pointer (some ⟨x.pw, 0, none⟩), .bool x.closed, .int .i64 x.na, .int .i64 x.nmd, .int .i64 x.dp, .slice x.sa x.sn x.sc, .pointer (some ⟨x.pm, 0, none⟩), .int .i64 x.ep, .int .i64 x.aa, .int .i64 x.amd, .int .i64 x.al, .int .i64 x.ae, ptrO x.ps].toArray 82 (0, 0))) [] hg ?_
    clear hg
    intro w hg
    have hS : (fun w => w.heap[pj]? = some (.cells [.int .i64 j.kind, .int .i64 j.n, .string (str j.data), .int .i64 j.steps, .bool j.done, .int .i64 j.at', .int .i64 j.md, .int .i64 j.left, ptrO j.ps, .func (.func j.fn) #[] #[]].toArray 86 (0, 0)) ∧ w.heap[pc]? = some (.cells [vm, vd, va, .int .i64 p.bytes, .int .i64 p.trail, .int .i64 p.marks, .int .i64 p.ahead, .int .i64 p.tickets, .int .i64 p.retries, .int .i64 p.step, .pointer (some ⟨x.pw, 0, none⟩), .bool x.closed, .int .i64 x.na, .int .i64 x.nmd, .int .i64 x.dp, .slice x.sa x.sn x.sc, .pointer (some ⟨x.pm, 0, none⟩), .int .i64 x.ep, .int .i64 x.aa, .int .i64 x.amd, .int .i64 x.al, .int .i64 x.ae, ptrO x.ps].toArray 82 (0, 0))) w := ⟨hg.own (pj, .cells [.int .i64 j.kind, .int .i64 j.n, .string (str j.data), .int .i64 j.steps, .bool j.done, .int .i64 j.at', .int .i64 j.md, .int .i64 j.left, ptrO j.ps, .func (.func j.fn) #[] #[]].toArray 86 (0, 0)) (by simp), hg.own (pc, .cells [vm, vd, va, .int .i64 p.bytes, .int .i64 p.trail, .int .i64 p.marks, .int .i64 p.ahead, .int .i64 p.tickets, .int .i64 p.retries, .int .i64 p.step, .pointer (some ⟨x.pw, 0, none⟩), .bool x.closed, .int .i64 x.na, .int .i64 x.nmd, .int .i64 x.dp, .slice x.sa x.sn x.sc, .pointer (some ⟨x.pm, 0, none⟩), .int .i64 x.ep, .int .i64 x.aa, .int .i64 x.amd, .int .i64 x.al, .int .i64 x.ae, ptrO x.ps].toArray 82 (0, 0)) (by simp)⟩
    refine WA.passM 0 hS ?_
    refine WA.passM 1 hS ?_
    refine WA.passM 2 hS ?_
    refine WA.passM 3 hS ?_
    refine WA.passM 4 hS ?_
    refine WA.passM 5 hS ?_
    refine WA.passM 6 hS ?_
    first | refine WA.passG 7 hS ?_ | refine WA.passN 7 hS ?_
    first | refine WA.passG 8 hS ?_ | refine WA.passN 8 hS ?_
    first | refine WA.passG 9 hS ?_ | refine WA.passN 9 hS ?_
    first | refine WA.passG 10 hS ?_ | refine WA.passN 10 hS ?_
    first | refine WA.passG 12 hS ?_ | refine WA.passN 12 hS ?_
    first | refine WA.passG 13 hS ?_ | refine WA.passN 13 hS ?_
    first | refine WA.passG 14 hS ?_ | refine WA.passN 14 hS ?_
    first | refine WA.passG 15 hS ?_ | refine WA.passN 15 hS ?_
    first | refine WA.passG 11 hS ?_ | refine WA.passN 11 hS ?_
    first | refine WA.passG 16 hS ?_ | refine WA.passN 16 hS ?_
    first | refine WA.passG 17 hS ?_ | refine WA.passN 17 hS ?_
    refine WA.passM 18 hS ?_
    refine WA.nil ?_
    clear hS s1 s2
    repeat' (first | refine zN ?_ | ((with_reducible refine WQ.nilG ?_); intro w hg) | (refine zB ?_; clear hg; intro b w hg; refine WO.fr ?_) | (refine zW ?_; clear hg; intro w hg; refine WO.fr ?_) | (refine op_pureB hg ?_; clear hg; intro w hg c hc; cases c <;> refine WO.fr ?_))
    exact ret (.cells rfl (by first | with_reducible assumption | ((with_reducible apply Cells.ldn); (first | with_reducible assumption | ((with_reducible apply hg.cells0); with_reducible assumption) | with_reducible exact r1 hg | with_reducible exact r2 hg | with_reducible exact r3 hg | with_reducible exact r4 hg | with_reducible exact r5 hg | with_reducible exact t1 hs | with_reducible exact t2 hs | with_reducible exact t3 hs | with_reducible exact t4 hs); exact rfl) | ((with_reducible apply CellsAt.ldn (hg := hg)); (repeat (first | ((with_reducible apply CellsAt.whole); exact rfl) | ((with_reducible apply CellsAt.here) <;> first | with_reducible assumption | (simp only [List.drop_zero, List.drop_succ_cons, List.take_succ_cons, List.take_zero]; exact rfl) | exact rfl) | with_reducible apply CellsAt.more | with_reducible apply CellsAt.next)); done)) (.tmp rfl .nil)) ⟨1, 0, Tok.none, true, j, fj, σ, s, x, T, rfl, hSl, rfl, by omega, fun h => (by cases h), sl, fw, fm, fa, fB, hK, hg.drop0⟩
  obtain ⟨hl1, hl2⟩ := hJ.pk hfn (by omega) (by omega)
  refine enter Tryz.func50 rfl (by simp only [Tryz.ntmps50, List.length_cons, List.length_nil, Nat.reduceAdd, Nat.reduceSub, List.replicate_succ, List.replicate_zero, List.cons_append, List.nil_append]; exact rfl) ?_
  repeat' (first | refine zN ?_ | ((with_reducible refine WQ.nilG ?_); intro w hg) | (refine zB ?_; clear hg; intro b w hg; refine WO.fr ?_) | (refine zW ?_; clear hg; intro w hg; refine WO.fr ?_) | (refine op_pureB hg ?_; clear hg; intro w hg c hc; cases c <;> refine WO.fr ?_))
  obtain ⟨br, rfl⟩ : ∃ z, z = b := ⟨b, rfl⟩
  refine WC.drawn (fun w => w.heap[pj]? = some (.cells [.int .i64 j.kind, .int .i64 j.n, .string (str j.data), .int .i64 j.steps, .bool j.done, .int .i64 j.at', .int .i64 j.md, .int .i64 j.left, ptrO j.ps, .func (.func j.fn) #[] #[]].toArray 86 (0, 0)) ∧ w.heap[pc]? = some (.cells [vm, vd, va, .int .i64 p.bytes, .int .i64 p.trail, .int .i64 p.marks, .int .i64 p.ahead, .int .i64 p.tickets, .int .i64 p.retries, .int .i64 p.step, .pointer (some ⟨x.pw, 0, none⟩), .bool x.closed, .int .i64 x.na, .int .i64 x.nmd, .int .i64 x.dp, .slice x.sa x.sn x.sc, .pointer (some ⟨x.pm, 0, none⟩), .int .i64 x.ep, .int .i64 x.aa, .int .i64 x.amd, .int .i64 x.al, .int .i64 x.ae, ptrO x.ps].toArray 82 (0, 0))) [] hg ?_
  clear hg
  intro w hg
  have hS : (fun w => w.heap[pj]? = some (.cells [.int .i64 j.kind, .int .i64 j.n, .string (str j.data), .int .i64 j.steps, .bool j.done, .int .i64 j.at', .int .i64 j.md, .int .i64 j.left, ptrO j.ps, .func (.func j.fn) #[] #[]].toArray 86 (0, 0)) ∧ w.heap[pc]? = some (.cells [vm, vd, va, .int .i64 p.bytes, .int .i64 p.trail, .int .i64 p.marks, .int .i64 p.ahead, .int .i64 p.tickets, .int .i64 p.retries, .int .i64 p.step, .pointer (some ⟨x.pw, 0, none⟩), .bool x.closed, .int .i64 x.na, .int .i64 x.nmd, .int .i64 x.dp, .slice x.sa x.sn x.sc, .pointer (some ⟨x.pm, 0, none⟩), .int .i64 x.ep, .int .i64 x.aa, .int .i64 x.amd, .int .i64 x.al, .int .i64 x.ae, ptrO x.ps].toArray 82 (0, 0))) w := ⟨hg.own (pj, .cells [.int .i64 j.kind, .int .i64 j.n, .string (str j.data), .int .i64 j.steps, .bool j.done, .int .i64 j.at', .int .i64 j.md, .int .i64 j.left, ptrO j.ps, .func (.func j.fn) #[] #[]].toArray 86 (0, 0)) (by simp), hg.own (pc, .cells [vm, vd, va, .int .i64 p.bytes, .int .i64 p.trail, .int .i64 p.marks, .int .i64 p.ahead, .int .i64 p.tickets, .int .i64 p.retries, .int .i64 p.step, .pointer (some ⟨x.pw, 0, none⟩), .bool x.closed, .int .i64 x.na, .int .i64 x.nmd, .int .i64 x.dp, .slice x.sa x.sn x.sc, .pointer (some ⟨x.pm, 0, none⟩), .int .i64 x.ep, .int .i64 x.aa, .int .i64 x.amd, .int .i64 x.al, .int .i64 x.ae, ptrO x.ps].toArray 82 (0, 0)) (by simp)⟩
  refine WA.passM 0 hS ?_
  refine WA.passM 1 hS ?_
  refine WA.passM 2 hS ?_
  refine WA.passM 3 hS ?_
  refine WA.passM 4 hS ?_
  refine WA.passM 5 hS ?_
  refine WA.passM 6 hS ?_
  first | refine WA.passG 7 hS ?_ | refine WA.passN 7 hS ?_
  first | refine WA.passG 8 hS ?_ | refine WA.passN 8 hS ?_
  first | refine WA.passG 9 hS ?_ | refine WA.passN 9 hS ?_
  first | refine WA.passG 10 hS ?_ | refine WA.passN 10 hS ?_
  first | refine WA.passG 12 hS ?_ | refine WA.passN 12 hS ?_
  first | refine WA.passG 13 hS ?_ | refine WA.passN 13 hS ?_
  first | refine WA.passG 14 hS ?_ | refine WA.passN 14 hS ?_
  first | refine WA.passG 15 hS ?_ | refine WA.passN 15 hS ?_
  first | refine WA.passG 11 hS ?_ | refine WA.passN 11 hS ?_
  first | refine WA.passG 16 hS ?_ | refine WA.passN 16 hS ?_
  first | refine WA.passG 17 hS ?_ | refine WA.passN 17 hS ?_
  refine WA.passM 18 hS ?_
  refine WA.nil ?_
  clear hS s1 s2 p1
  repeat' (first | refine zN ?_ | ((with_reducible refine WQ.nilG ?_); intro w hg) | (refine zB ?_; clear hg; intro b w hg; refine WO.fr ?_) | (refine zW ?_; clear hg; intro w hg; refine WO.fr ?_) | (refine op_pureB hg ?_; clear hg; intro w hg c hc; cases c <;> refine WO.fr ?_))
  refine op_call (look_spec hB hp hL hok ⟨hl1, by omega⟩ hSl ⟨sl, fw, fm, fa, fB, hK, (((((((hg.front 7).front 7).front 7).front 7).front 7).front 7).front 7)⟩) ?_
  clear hg
  rintro _ w ⟨er, t, done, j', fj', σ', s', rfl, hS1, hR, h7, h8, h9, sl, fw, fm, fa, fB, hK, hg⟩
  replace hg := ((((((((hg.front 6).front 6).front 6).front 6).front 6).front 6).front 6).front 7)
  simp only [pull, pullIn, cuF, jF] at hg
  refine ⟨_, rfl, ?_⟩
  refine WO.fr ?_
  simp only [resV]
  repeat' (first | refine zN ?_ | ((with_reducible refine WQ.nilG ?_); intro w hg) | (refine zB ?_; clear hg; intro b w hg; refine WO.fr ?_) | (refine zW ?_; clear hg; intro w hg; refine WO.fr ?_) | (refine op_pureB hg ?_; clear hg; intro w hg c hc; cases c <;> refine WO.fr ?_))
  have hjf : j'.fn = j.fn := by rw [hR.e]
  cases done
  · repeat' (first | refine zN ?_ | ((with_reducible refine WQ.nilG ?_); intro w hg) | (refine zB ?_; clear hg; intro b w hg; refine WO.fr ?_) | (refine zW ?_; clear hg; intro w hg; refine WO.fr ?_) | (refine op_pureB hg ?_; clear hg; intro w hg c hc; cases c <;> refine WO.fr ?_))
    exact ret (.cells rfl (by first | with_reducible assumption | ((with_reducible apply Cells.ldn); (first | with_reducible assumption | ((with_reducible apply hg.cells0); with_reducible assumption) | with_reducible exact r1 hg | with_reducible exact r2 hg | with_reducible exact r3 hg | with_reducible exact r4 hg | with_reducible exact r5 hg | with_reducible exact t1 hs | with_reducible exact t2 hs | with_reducible exact t3 hs | with_reducible exact t4 hs); exact rfl) | ((with_reducible apply CellsAt.ldn (hg := hg)); (repeat (first | ((with_reducible apply CellsAt.whole); exact rfl) | ((with_reducible apply CellsAt.here) <;> first | with_reducible assumption | (simp only [List.drop_zero, List.drop_succ_cons, List.take_succ_cons, List.take_zero]; exact rfl) | exact rfl) | with_reducible apply CellsAt.more | with_reducible apply CellsAt.next)); done)) (.tmp rfl .nil)) ⟨0, 0, Tok.none, false, j', fj', σ', s', x, T, rfl, hS1, hR.e, by omega, fun _ => ⟨rfl, h9, h8, by omega, (hR.n hn).1, by
      rw [pot_look (.inr ⟨hjf.trans hfn, by rw [hR.e]; dsimp only; omega, by rw [hR.e]; dsimp only; omega⟩), pot_look (.inr ⟨hfn, by omega, by omega⟩), h9]
      exact (hR.n hn).2 rfl, ⟨fun _ _ _ => ⟨(hR.l rfl).1, by have := (hR.l rfl).2; omega⟩, fun h => by rw [hjf, hfn] at h; exact absurd h (by decide)⟩⟩, sl, fw, fm, fa, fB, hK, hg.drop0.drop0⟩
  · repeat' (first | refine zN ?_ | ((with_reducible refine WQ.nilG ?_); intro w hg) | (refine zB ?_; clear hg; intro b w hg; refine WO.fr ?_) | (refine zW ?_; clear hg; intro w hg; refine WO.fr ?_) | (refine op_pureB hg ?_; clear hg; intro w hg c hc; cases c <;> refine WO.fr ?_))
    exact ret (.cells rfl (by first | with_reducible assumption | ((with_reducible apply Cells.ldn); (first | with_reducible assumption | ((with_reducible apply hg.cells0); with_reducible assumption) | with_reducible exact r1 hg | with_reducible exact r2 hg | with_reducible exact r3 hg | with_reducible exact r4 hg | with_reducible exact r5 hg | with_reducible exact t1 hs | with_reducible exact t2 hs | with_reducible exact t3 hs | with_reducible exact t4 hs); exact rfl) | ((with_reducible apply CellsAt.ldn (hg := hg)); (repeat (first | ((with_reducible apply CellsAt.whole); exact rfl) | ((with_reducible apply CellsAt.here) <;> first | with_reducible assumption | (simp only [List.drop_zero, List.drop_succ_cons, List.take_succ_cons, List.take_zero]; exact rfl) | exact rfl) | with_reducible apply CellsAt.more | with_reducible apply CellsAt.next)); done)) (.tmp rfl .nil)) ⟨er, 0, t, true, j', fj', σ', s', x, T, rfl, hS1, hR.e, by omega, fun h => (by cases h), sl, fw, fm, fa, fB, hK, hg.drop0.drop0⟩
set_option maxHeartbeats 8000000 in
theorem take_spec {B : Nat} (h9 : T + 2 ≤ 900) (hB : p.bytes = B) (hp : p.right = true) (hL : LexAt W [vm, vd, va] L) (hok : LexOK L) (hfn : j.fn = 51) (hJ : JOK p j) (hn : nearO B s.all.length σ) (hSl : SlotOK vm vd va L j.ps fj σ) (hC : Cur W pc vm vd va L p T x s (jF pj j :: fj :: Fs) w) :
    Calls Tryz.prog 51 #[.pointer (some ⟨pc, 0, none⟩), .pointer (some ⟨pj, 0, none⟩)] w (Stepped W pc pj vm vd va L p B T x s j σ Fs) := by
  obtain ⟨sl, fw, fm, fa, fB, hK, hg⟩ := hC
  have hl := hJ.tk hfn
  simp only [cuF, jF] at hg
  refine enter Tryz.func51 rfl (by simp only [Tryz.ntmps51, List.length_cons, List.length_nil, Nat.reduceAdd, Nat.reduceSub, List.replicate_succ, List.replicate_zero, List.cons_append, List.nil_append]; exact rfl) ?_
  repeat' (first | refine zN ?_ | ((with_reducible refine WQ.nilG ?_); intro w hg) | (refine zB ?_; clear hg; intro b w hg; refine WO.fr ?_) | (refine zW ?_; clear hg; intro w hg; refine WO.fr ?_) | (refine op_pureB hg ?_; clear hg; intro w hg c hc; cases c <;> refine WO.fr ?_))
  obtain ⟨br, rfl⟩ : ∃ z, z = b := ⟨b, rfl⟩
  refine op_call (look_spec hB hp hL hok (by omega) hSl ⟨sl, fw, fm, fa, fB, hK, (((((((hg.front 7).front 7).front 7).front 7).front 7).front 7).front 7)⟩) ?_
  clear hg
  rintro _ w ⟨er, t, done, j', fj', σ', s', rfl, hS1, hR, h7, h8, h9', sl, fw, fm, fa, fB, hK, hg⟩
  replace hg := ((((((((hg.front 6).front 6).front 6).front 6).front 6).front 6).front 6).front 7)
  simp only [pull, pullIn, cuF, jF] at hg
  refine ⟨_, rfl, ?_⟩
  refine WO.fr ?_
  simp only [resV]
  repeat' (first | refine zN ?_ | ((with_reducible refine WQ.nilG ?_); intro w hg) | (refine zB ?_; clear hg; intro b w hg; refine WO.fr ?_) | (refine zW ?_; clear hg; intro w hg; refine WO.fr ?_) | (refine op_pureB hg ?_; clear hg; intro w hg c hc; cases c <;> refine WO.fr ?_))
  obtain ⟨bt, rfl⟩ : ∃ z, z = b := ⟨b, rfl⟩
  have hjf : j'.fn = j.fn := by rw [hR.e]
  cases done
  · repeat' (first | refine zN ?_ | ((with_reducible refine WQ.nilG ?_); intro w hg) | (refine zB ?_; clear hg; intro b w hg; refine WO.fr ?_) | (refine zW ?_; clear hg; intro w hg; refine WO.fr ?_) | (refine op_pureB hg ?_; clear hg; intro w hg c hc; cases c <;> refine WO.fr ?_))
    exact ret (.cells rfl (by first | with_reducible assumption | ((with_reducible apply Cells.ldn); (first | with_reducible assumption | ((with_reducible apply hg.cells0); with_reducible assumption) | with_reducible exact r1 hg | with_reducible exact r2 hg | with_reducible exact r3 hg | with_reducible exact r4 hg | with_reducible exact r5 hg | with_reducible exact t1 hs | with_reducible exact t2 hs | with_reducible exact t3 hs | with_reducible exact t4 hs); exact rfl) | ((with_reducible apply CellsAt.ldn (hg := hg)); (repeat (first | ((with_reducible apply CellsAt.whole); exact rfl) | ((with_reducible apply CellsAt.here) <;> first | with_reducible assumption | (simp only [List.drop_zero, List.drop_succ_cons, List.take_succ_cons, List.take_zero]; exact rfl) | exact rfl) | with_reducible apply CellsAt.more | with_reducible apply CellsAt.next)); done)) (.tmp rfl .nil)) ⟨0, 0, Tok.none, false, j', fj', σ', s', x, T, rfl, hS1, hR.e, by omega, fun _ => ⟨rfl, h9', h8, by omega, (hR.n hn).1, by
      rw [pot_look (.inl (hjf.trans hfn)), pot_look (.inl hfn), h9']
      exact (hR.n hn).2 rfl, ⟨fun h => by rw [hjf, hfn] at h; exact absurd h (by decide), fun _ => by have := hR.l rfl; omega⟩⟩, sl, fw, fm, fa, fB, hK, hg.drop0.drop0⟩
  have hend : ∀ {w : World} {f1 f2 : Frag}, Goes W [] (f1 :: f2 :: cuF pc vm vd va p x :: fw :: fm :: fa :: fB :: jF pj j' :: fj' :: Fs) w → Stepped W pc pj vm vd va L p B T x s j σ Fs (.returned (.tuple #[resV er 0 t, .bool true])) w := fun hg => ⟨er, 0, t, true, j', fj', σ', s', x, T, rfl, hS1, hR.e, by omega, fun h => (by cases h), sl, fw, fm, fa, fB, hK, hg.drop0.drop0⟩
  by_cases he : er = 0
  rotate_left
  · repeat' (first | refine zN ?_ | ((with_reducible refine WQ.nilG ?_); intro w hg) | (refine zB ?_; clear hg; intro b w hg; refine WO.fr ?_) | (refine zW ?_; clear hg; intro w hg; refine WO.fr ?_) | (refine op_pureB hg ?_; clear hg; intro w hg c hc; cases c <;> refine WO.fr ?_))
    exact ret (.cells rfl (by first | with_reducible assumption | ((with_reducible apply Cells.ldn); (first | with_reducible assumption | ((with_reducible apply hg.cells0); with_reducible assumption) | with_reducible exact r1 hg | with_reducible exact r2 hg | with_reducible exact r3 hg | with_reducible exact r4 hg | with_reducible exact r5 hg | with_reducible exact t1 hs | with_reducible exact t2 hs | with_reducible exact t3 hs | with_reducible exact t4 hs); exact rfl) | ((with_reducible apply CellsAt.ldn (hg := hg)); (repeat (first | ((with_reducible apply CellsAt.whole); exact rfl) | ((with_reducible apply CellsAt.here) <;> first | with_reducible assumption | (simp only [List.drop_zero, List.drop_succ_cons, List.take_succ_cons, List.take_zero]; exact rfl) | exact rfl) | with_reducible apply CellsAt.more | with_reducible apply CellsAt.next)); done)) (.tmp rfl .nil)) (hend hg)
  by_cases hk : t.kind = 3
  · repeat' (first | refine zN ?_ | ((with_reducible refine WQ.nilG ?_); intro w hg) | (refine zB ?_; clear hg; intro b w hg; refine WO.fr ?_) | (refine zW ?_; clear hg; intro w hg; refine WO.fr ?_) | (refine op_pureB hg ?_; clear hg; intro w hg c hc; cases c <;> refine WO.fr ?_))
    exact ret (.cells rfl (by first | with_reducible assumption | ((with_reducible apply Cells.ldn); (first | with_reducible assumption | ((with_reducible apply hg.cells0); with_reducible assumption) | with_reducible exact r1 hg | with_reducible exact r2 hg | with_reducible exact r3 hg | with_reducible exact r4 hg | with_reducible exact r5 hg | with_reducible exact t1 hs | with_reducible exact t2 hs | with_reducible exact t3 hs | with_reducible exact t4 hs); exact rfl) | ((with_reducible apply CellsAt.ldn (hg := hg)); (repeat (first | ((with_reducible apply CellsAt.whole); exact rfl) | ((with_reducible apply CellsAt.here) <;> first | with_reducible assumption | (simp only [List.drop_zero, List.drop_succ_cons, List.take_succ_cons, List.take_zero]; exact rfl) | exact rfl) | with_reducible apply CellsAt.more | with_reducible apply CellsAt.next)); done)) (.tmp rfl .nil)) (hend hg)
  repeat' (first | refine zN ?_ | ((with_reducible refine WQ.nilG ?_); intro w hg) | (refine zB ?_; clear hg; intro b w hg; refine WO.fr ?_) | (refine zW ?_; clear hg; intro w hg; refine WO.fr ?_) | (refine op_pureB hg ?_; clear hg; intro w hg c hc; cases c <;> refine WO.fr ?_))
  clear hend
  have t1 : ∀ {w : World}, (w.heap[bt]? = some (.cells [.int .i64 er, .int .i64 0, .int .i64 t.kind, .int .i64 t.rule, .int .i64 t.fr, .int .i64 t.at', .int .i64 t.to, .int .i64 t.mode].toArray 50 (0, 0)) ∧ w.heap[pc]? = some (.cells [vm, vd, va, .int .i64 p.bytes, .int .i64 p.trail, .int .i64 p.marks, .int .i64 p.ahead, .int .i64 p.tickets, .int .i64 p.retries, .int .i64 p.step, .pointer (some ⟨x.pw, 0, none⟩), .bool x.closed, .int .i64 x.na, .int .i64 x.nmd, .int .i64 x.dp, .slice x.sa x.sn x.sc, .pointer (some ⟨x.pm, 0, none⟩), .int .i64 x.ep, .int .i64 x.aa, .int .i64 x.amd, .int .i64 x.al, .int .i64 x.ae, ptrO x.ps].toArray 82 (0, 0))) → Cells w ⟨bt, 2, none⟩ [.int .i64 t.kind, .int .i64 t.rule, .int .i64 t.fr, .int .i64 t.at', .int .i64 t.to, .int .i64 t.mode] := fun h => heap_cells h.1 rfl
  have t2 : ∀ {w : World}, (w.heap[bt]? = some (.cells [.int .i64 er, .int .i64 0, .int .i64 t.kind, .int .i64 t.rule, .int .i64 t.fr, .int .i64 t.at', .int .i64 t.to, .int .i64 t.mode].toArray 50 (0, 0)) ∧ w.heap[pc]? = some (.cells [vm, vd, va, .int .i64 p.bytes, .int .i64 p.trail, .int .i64 p.marks, .int .i64 p.ahead, .int .i64 p.tickets, .int .i64 p.retries, .int .i64 p.step, .pointer (some ⟨x.pw, 0, none⟩), .bool x.closed, .int .i64 x.na, .int .i64 x.nmd, .int .i64 x.dp, .slice x.sa x.sn x.sc, .pointer (some ⟨x.pm, 0, none⟩), .int .i64 x.ep, .int .i64 x.aa, .int .i64 x.amd, .int .i64 x.al, .int .i64 x.ae, ptrO x.ps].toArray 82 (0, 0))) → Cells w ⟨pc, 14, none⟩ [.int .i64 x.dp, .slice x.sa x.sn x.sc] := fun h => heap_cells h.2 rfl
  have t3 : ∀ {w : World}, (w.heap[bt]? = some (.cells [.int .i64 er, .int .i64 0, .int .i64 t.kind, .int .i64 t.rule, .int .i64 t.fr, .int .i64 t.at', .int .i64 t.to, .int .i64 t.mode].toArray 50 (0, 0)) ∧ w.heap[pc]? = some (.cells [vm, vd, va, .int .i64 p.bytes, .int .i64 p.trail, .int .i64 p.marks, .int .i64 p.ahead, .int .i64 p.tickets, .int .i64 p.retries, .int .i64 p.step, .pointer (some ⟨x.pw, 0, none⟩), .bool x.closed, .int .i64 x.na, .int .i64 x.nmd, .int .i64 x.dp, .slice x.sa x.sn x.sc, .pointer (some ⟨x.pm, 0, none⟩), .int .i64 x.ep, .int .i64 x.aa, .int .i64 x.amd, .int .i64 x.al, .int .i64 x.ae, ptrO x.ps].toArray 82 (0, 0))) → Cells w ⟨pc, 12, none⟩ [.int .i64 x.na, .int .i64 x.nmd] := fun h => heap_cells h.2 rfl
  refine WC.drawn (fun w => w.heap[bt]? = some (.cells [.int .i64 er, .int .i64 0, .int .i64 t.kind, .int .i64 t.rule, .int .i64 t.fr, .int .i64 t.at', .int .i64 t.to, .int .i64 t.mode].toArray 50 (0, 0)) ∧ w.heap[pc]? = some (.cells [vm, vd, va, .int .i64 p.bytes, .int .i64 p.trail, .int .i64 p.marks, .int .i64 p.ahead, .int .i64 p.tickets, .int .i64 p.retries, .int .i64 p.step, .pointer (some ⟨x.pw, 0, none⟩), .bool x.closed, .int .i64 x.na, .int .i64 x.nmd, .int .i64 x.dp, .slice x.sa x.sn x.sc, .pointer (some ⟨x.pm, 0, none⟩), .int .i64 x.ep, .int .i64 x.aa, .int .i64 x.amd, .int .i64 x.al, .int .i64 x.ae, ptrO x.ps].toArray 82 (0, 0))) [18] hg ?_
  clear hg
  intro w hg
  have hS : (fun w => w.heap[bt]? = some (.cells [.int .i64 er, .int .i64 0, .int .i64 t.kind, .int .i64 t.rule, .int .i64 t.fr, .int .i64 t.at', .int .i64 t.to, .int .i64 t.mode].toArray 50 (0, 0)) ∧ w.heap[pc]? = some (.cells [vm, vd, va, .int .i64 p.bytes, .int .i64 p.trail, .int .i64 p.marks, .int .i64 p.ahead, .int .i64 p.tickets, .int .i64 p.retries, .int .i64 p.step, .pointer (some ⟨x.pw, 0, none⟩), .bool x.closed, .int .i64 x.na, .int .i64 x.nmd, .int .i64 x.dp, .slice x.sa x.sn x.sc, .pointer (some ⟨x.pm, 0, none⟩), .int .i64 x.ep, .int .i64 x.aa, .int .i64 x.amd, .int .i64 x.al, .int .i64 x.ae, ptrO x.ps].toArray 82 (0, 0))) w := ⟨hg.own (bt, .cells [.int .i64 er, .int .i64 0, .int .i64 t.kind, .int .i64 t.rule, .int .i64 t.fr, .int .i64 t.at', .int .i64 t.to, .int .i64 t.mode].toArray 50 (0, 0)) (by simp), hg.own (pc, .cells [vm, vd, va, .int .i64 p.bytes, .int .i64 p.trail, .int .i64 p.marks, .int .i64 p.ahead, .int .i64 p.tickets, .int .i64 p.retries, .int .i64 p.step, .pointer (some ⟨x.pw, 0, none⟩), .bool x.closed, .int .i64 x.na, .int .i64 x.nmd, .int .i64 x.dp, .slice x.sa x.sn x.sc, .pointer (some ⟨x.pm, 0, none⟩), .int .i64 x.ep, .int .i64 x.aa, .int .i64 x.amd, .int .i64 x.al, .int .i64 x.ae, ptrO x.ps].toArray 82 (0, 0)) (by simp)⟩
  refine WA.passM 0 hS ?_
  refine WA.passM 1 hS ?_
  refine WA.passM 4 hS ?_
  refine WA.passM 5 hS ?_
  refine WA.passM 6 hS ?_
  refine WA.passM 7 hS ?_
  refine WA.passM 9 hS ?_
  refine WA.passM 10 hS ?_
  refine WA.passM 11 hS ?_
  refine WA.passM 12 hS ?_
  refine WA.passM 2 hS ?_
  refine WA.passM 8 hS ?_
  refine WA.passM 13 hS ?_
  refine WA.only 3 ?_
  have hbe := behind_spec w t
  simp only [Tok.enc] at hbe
  refine op_call hbe ?_
  clear hbe
  rintro _ w ⟨rfl, hg2⟩
  replace hg := hg.call00 hg2
  clear hg2 hS
  refine ⟨_, rfl, ?_⟩
  refine WO.fr ?_
  have hS : (fun w => w.heap[bt]? = some (.cells [.int .i64 er, .int .i64 0, .int .i64 t.kind, .int .i64 t.rule, .int .i64 t.fr, .int .i64 t.at', .int .i64 t.to, .int .i64 t.mode].toArray 50 (0, 0)) ∧ w.heap[pc]? = some (.cells [vm, vd, va, .int .i64 p.bytes, .int .i64 p.trail, .int .i64 p.marks, .int .i64 p.ahead, .int .i64 p.tickets, .int .i64 p.retries, .int .i64 p.step, .pointer (some ⟨x.pw, 0, none⟩), .bool x.closed, .int .i64 x.na, .int .i64 x.nmd, .int .i64 x.dp, .slice x.sa x.sn x.sc, .pointer (some ⟨x.pm, 0, none⟩), .int .i64 x.ep, .int .i64 x.aa, .int .i64 x.amd, .int .i64 x.al, .int .i64 x.ae, ptrO x.ps].toArray 82 (0, 0))) w := ⟨hg.own (bt, .cells [.int .i64 er, .int .i64 0, .int .i64 t.kind, .int .i64 t.rule, .int .i64 t.fr, .int .i64 t.at', .int .i64 t.to, .int .i64 t.mode].toArray 50 (0, 0)) (by simp), hg.own (pc, .cells [vm, vd, va, .int .i64 p.bytes, .int .i64 p.trail, .int .i64 p.marks, .int .i64 p.ahead, .int .i64 p.tickets, .int .i64 p.retries, .int .i64 p.step, .pointer (some ⟨x.pw, 0, none⟩), .bool x.closed, .int .i64 x.na, .int .i64 x.nmd, .int .i64 x.dp, .slice x.sa x.sn x.sc, .pointer (some ⟨x.pm, 0, none⟩), .int .i64 x.ep, .int .i64 x.aa, .int .i64 x.amd, .int .i64 x.al, .int .i64 x.ae, ptrO x.ps].toArray 82 (0, 0)) (by simp)⟩
  refine WO.nilA hS ?_
  refine WA.only 14 ?_
  refine op_call (trPush_spec x.na x.nmd hK.b ((((((((((hg.front 8).front 8).front 7).front 7).front 7).front 7).front 7).front 7).front 8))) ?_
  clear hg hS
  rintro _ w ⟨v', fB', rfl, hsub, hT', hg⟩
  obtain ⟨a, n, c, rfl⟩ := hT'.slice
  replace hg := (((((((((hg.front 8).front 8).front 2).front 8).front 8).front 8).front 8).front 8).front 8)
  simp only [pull, pullIn] at hg
  refine ⟨_, rfl, ?_⟩
  refine WO.fr ?_
  have hS : (fun w => w.heap[bt]? = some (.cells [.int .i64 er, .int .i64 0, .int .i64 t.kind, .int .i64 t.rule, .int .i64 t.fr, .int .i64 t.at', .int .i64 t.to, .int .i64 t.mode].toArray 50 (0, 0)) ∧ w.heap[pc]? = some (.cells [vm, vd, va, .int .i64 p.bytes, .int .i64 p.trail, .int .i64 p.marks, .int .i64 p.ahead, .int .i64 p.tickets, .int .i64 p.retries, .int .i64 p.step, .pointer (some ⟨x.pw, 0, none⟩), .bool x.closed, .int .i64 x.na, .int .i64 x.nmd, .int .i64 x.dp, .slice x.sa x.sn x.sc, .pointer (some ⟨x.pm, 0, none⟩), .int .i64 x.ep, .int .i64 x.aa, .int .i64 x.amd, .int .i64 x.al, .int .i64 x.ae, ptrO x.ps].toArray 82 (0, 0))) w := ⟨hg.own (bt, .cells [.int .i64 er, .int .i64 0, .int .i64 t.kind, .int .i64 t.rule, .int .i64 t.fr, .int .i64 t.at', .int .i64 t.to, .int .i64 t.mode].toArray 50 (0, 0)) (by simp), hg.own (pc, .cells [vm, vd, va, .int .i64 p.bytes, .int .i64 p.trail, .int .i64 p.marks, .int .i64 p.ahead, .int .i64 p.tickets, .int .i64 p.retries, .int .i64 p.step, .pointer (some ⟨x.pw, 0, none⟩), .bool x.closed, .int .i64 x.na, .int .i64 x.nmd, .int .i64 x.dp, .slice x.sa x.sn x.sc, .pointer (some ⟨x.pm, 0, none⟩), .int .i64 x.ep, .int .i64 x.aa, .int .i64 x.amd, .int .i64 x.al, .int .i64 x.ae, ptrO x.ps].toArray 82 (0, 0)) (by simp)⟩
  refine WO.nilA hS ?_
  refine WA.passM 15 hS ?_
  refine WA.passM 16 hS ?_
  refine WA.passM 17 hS ?_
  refine WA.only 18 ?_
  refine op_stA hg ?_
  clear hg hS
  intro w hg
  refine WO.fr ?_
  refine WO.nilL ?_
  refine WA.nil ?_
  clear t1 t2 t3
  repeat' (first | refine zN ?_ | ((with_reducible refine WQ.nilG ?_); intro w hg) | (refine zB ?_; clear hg; intro b w hg; refine WO.fr ?_) | (refine zW ?_; clear hg; intro w hg; refine WO.fr ?_) | (refine op_pureB hg ?_; clear hg; intro w hg c hc; cases c <;> refine WO.fr ?_))
  have hC2 : Cur W pc vm vd va L p T { x with na := t.to, nmd := t.mode, sa := a, sn := n, sc := c } s' (jF pj j' :: fj' :: [(bt, .cells [.int .i64 er, .int .i64 0, .int .i64 t.kind, .int .i64 t.rule, .int .i64 t.fr, .int .i64 t.at', .int .i64 t.to, .int .i64 t.mode].toArray 50 (0, 0))] :: [(br, .cells [.int .i64 0, .int .i64 0, .int .i64 0, .int .i64 0, .int .i64 0, .int .i64 0, .int .i64 0, .int .i64 0].toArray 50 (0, 0))] :: Fs) w := ⟨sl, fw, fm, fa, fB', ⟨hK.w, hK.k, hK.al, hK.m, fun y hy => (hK.ms y hy).mono hsub (Nat.le_refl _), hK.mn, hT', hK.e, hK.t, hK.l, hK.a⟩, (((((((((hg.front 1).front 1).front 8).front 8).front 8).front 8).front 8).front 8).front 8)⟩
  refine op_call (changed_spec (by omega) hC2) ?_
  clear hg hC2 hK
  rintro _ w ⟨s2, ⟨v, rfl⟩, hs1, hs2, sl, fw, fm, fa, fB, hK, hg⟩
  replace hg := (((((((((hg.front 6).front 6).front 6).front 6).front 6).front 6).front 6).front 8).front 8)
  simp only [pull, pullIn, cuF, jF] at hg
  refine ⟨_, rfl, ?_⟩
  refine WO.fr ?_
  repeat' (first | refine zN ?_ | ((with_reducible refine WQ.nilG ?_); intro w hg) | (refine zB ?_; clear hg; intro b w hg; refine WO.fr ?_) | (refine zW ?_; clear hg; intro w hg; refine WO.fr ?_) | (refine op_pureB hg ?_; clear hg; intro w hg c hc; cases c <;> refine WO.fr ?_))
  exact ret (.cells rfl (by first | with_reducible assumption | ((with_reducible apply Cells.ldn); (first | with_reducible assumption | ((with_reducible apply hg.cells0); with_reducible assumption) | with_reducible exact r1 hg | with_reducible exact r2 hg | with_reducible exact r3 hg | with_reducible exact r4 hg | with_reducible exact r5 hg | with_reducible exact t1 hs | with_reducible exact t2 hs | with_reducible exact t3 hs | with_reducible exact t4 hs); exact rfl) | ((with_reducible apply CellsAt.ldn (hg := hg)); (repeat (first | ((with_reducible apply CellsAt.whole); exact rfl) | ((with_reducible apply CellsAt.here) <;> first | with_reducible assumption | (simp only [List.drop_zero, List.drop_succ_cons, List.take_succ_cons, List.take_zero]; exact rfl) | exact rfl) | with_reducible apply CellsAt.more | with_reducible apply CellsAt.next)); done)) (.tmp rfl .nil)) ⟨er, 0, t, true, j', fj', σ', s2, _, T + 1, rfl, hS1, hR.e, by omega, fun h => (by cases h), sl, fw, fm, fa, fB, hK, hg.drop0.drop0⟩
end
end Go.Proofs.YtkdidefghbeabaaGreat
