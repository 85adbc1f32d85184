/- A job's begin and step. The cursor: Scan. The cursor: New. -/
import Derived.Test.YtkdidefghbeabaaGreatM23
import Derived.Test.YtkdidefghbeabaaGreatM08
namespace Go.Proofs.YtkdidefghbeabaaGreat
open Go Go.RowKit
set_option maxRecDepth 10000
set_option linter.unusedSimpArgs false
set_option linter.unusedVariables false
set_option maxHeartbeats 4000000 in
theorem begin_spec (w0 : World) (a : Option Addr) (k n : Int) (dat : List UInt8) : Calls Tryz.prog 9 #[.pointer a, .agg #[.int .i64 k, .int .i64 n, .string (str dat)]] w0 fun e w' => ∃ pj, e = .returned (.pointer (some ⟨pj, 0, none⟩)) ∧ Goes w0 [] [jF pj ⟨k, n, dat, 0, false, 0, 0, if k = 3 then n else 1, none, stepF k⟩] w' := by
  have hg := Goes.refl w0
  have hst := fun w' => steps_spec w' k
  generalize stepF k = fn at hst ⊢
  refine enter Tryz.func9 rfl (by simp only [Tryz.ntmps9, List.length_cons, List.length_nil, Nat.reduceAdd, Nat.reduceSub, List.replicate_succ, List.replicate_zero, List.cons_append, List.nil_append]; exact rfl) ?_
  repeat' (first | refine zN ?_ | ((with_reducible refine WQ.nilG ?_); intro w hg) | (refine zB ?_; clear hg; intro b w hg; refine WO.fr ?_) | (refine zW ?_; clear hg; intro w hg; refine WO.fr ?_) | (refine op_pureB hg ?_; clear hg; intro w hg c hc; cases c <;> refine WO.fr ?_))
  obtain ⟨bo, rfl⟩ : ∃ z, z = b := ⟨b, rfl⟩
  have s1 : ∀ {w : World}, (w.heap[bo]? = some (.cells [.int .i64 k, .int .i64 n, .string (str dat)].toArray 41 (0, 0))) → w.cell? ⟨bo, 0, none⟩ = some (.int .i64 k) := fun h => heap_cell h rfl
  have t1 : ∀ {w : World}, (w.heap[bo]? = some (.cells [.int .i64 k, .int .i64 n, .string (str dat)].toArray 41 (0, 0))) → Cells w ⟨bo, 0, none⟩ [.int .i64 k, .int .i64 n, .string (str dat)] := fun h => heap_cells h rfl
  refine WC.drawn (fun w => w.heap[bo]? = some (.cells [.int .i64 k, .int .i64 n, .string (str dat)].toArray 41 (0, 0))) [] hg ?_
  clear hg
  intro w hg
  have hS : (fun w => w.heap[bo]? = some (.cells [.int .i64 k, .int .i64 n, .string (str dat)].toArray 41 (0, 0))) w := hg.own (bo, .cells [.int .i64 k, .int .i64 n, .string (str dat)].toArray 41 (0, 0)) (by simp)
  refine WA.passM 1 hS ?_
  refine WA.passM 0 hS ?_
  refine WA.passM 2 hS ?_
  refine WA.only 3 ?_
  refine op_call (hst w) ?_
  rintro _ w ⟨rfl, hg2⟩
  replace hg := hg.call00 hg2
  clear hg2 hS
  refine ⟨_, rfl, ?_⟩
  refine WO.fr ?_
  have hS : (fun w => w.heap[bo]? = some (.cells [.int .i64 k, .int .i64 n, .string (str dat)].toArray 41 (0, 0))) w := hg.own (bo, .cells [.int .i64 k, .int .i64 n, .string (str dat)].toArray 41 (0, 0)) (by simp)
  refine WO.nilA hS ?_
  refine WA.passM 4 hS ?_
  refine WA.only 5 ?_
  refine op_boxA hg ?_
  clear hg hS
  intro pj w hg
  refine WO.fr ?_
  have hS : (fun w => w.heap[bo]? = some (.cells [.int .i64 k, .int .i64 n, .string (str dat)].toArray 41 (0, 0))) w := hg.own (bo, .cells [.int .i64 k, .int .i64 n, .string (str dat)].toArray 41 (0, 0)) (by simp)
  refine WO.nilA hS ?_
  refine WA.passM 6 hS ?_
  refine WA.nil ?_
  clear hS s1 t1
  by_cases h3 : k = 3
  · rw [if_pos h3]
    repeat' (first | refine zN ?_ | ((with_reducible refine WQ.nilG ?_); intro w hg) | (refine zB ?_; clear hg; intro b w hg; refine WO.fr ?_) | (refine zW ?_; clear hg; intro w hg; refine WO.fr ?_) | (refine op_pureB hg ?_; clear hg; intro w hg c hc; cases c <;> refine WO.fr ?_))
    exact ret1 rfl ⟨pj, rfl, ((hg.front 1)).drop0⟩
  · rw [if_neg h3]
    repeat' (first | refine zN ?_ | ((with_reducible refine WQ.nilG ?_); intro w hg) | (refine zB ?_; clear hg; intro b w hg; refine WO.fr ?_) | (refine zW ?_; clear hg; intro w hg; refine WO.fr ?_) | (refine op_pureB hg ?_; clear hg; intro w hg c hc; cases c <;> refine WO.fr ?_))
    exact ret1 rfl ⟨pj, rfl, ((hg.front 1)).drop0⟩
theorem stepF_fun (k : Int) : ∃ fn, Fun Tryz.prog (stepF k) fn := by
  unfold stepF
  repeat' split
  all_goals exact ⟨_, inferInstance⟩
section
variable {W : World} {pc pj : Nat} {vm vd va : Value} {L : PLex} {p : Prm} {T : Nat} {x : CU} {s : WS} {j : JB} {fj : Frag} {Fs : List Frag} {w : World} {σ : Option SC}
theorem job_spec {B : Nat} (h9 : T + 2 ≤ 900) (hB : p.bytes = B) (hp : p.right = true) (hL : LexAt W [vm, vd, va] L) (hok : LexOK L) (hd : j.data.length ≤ 40) (hfn : j.fn = stepF j.kind) (hJ : JOK p j) (hn : nearO B s.all.length σ) (hSl : SlotOK vm vd va L j.ps fj σ) (hC : Cur W pc vm vd va L p T x s (jF pj j :: fj :: Fs) w) :
    Calls Tryz.prog j.fn #[.pointer (some ⟨pc, 0, none⟩), .pointer (some ⟨pj, 0, none⟩)] w (Stepped W pc pj vm vd va L p B T x s j σ Fs) := by
  have key : ∀ f, j.fn = f → f = stepF j.kind → Calls Tryz.prog f #[.pointer (some ⟨pc, 0, none⟩), .pointer (some ⟨pj, 0, none⟩)] w (Stepped W pc pj vm vd va L p B T x s j σ Fs) := by
    intro f hf hk
    unfold stepF at hk
    split at hk
    · subst hk; exact feed_spec h9 hp hd hf hn hSl hC
    split at hk
    · subst hk; exact shut_spec h9 hSl hC
    split at hk
    · subst hk; exact peek_spec hB hp hL hok hf hJ hn hSl hC
    split at hk
    · subst hk; exact take_spec h9 hB hp hL hok hf hJ hn hSl hC
    split at hk
    · subst hk; exact pushBack_spec h9 hSl hC
    split at hk
    · subst hk; exact mark_spec h9 hSl hC
    split at hk
    · subst hk; exact rewind_spec h9 hSl hC
    split at hk
    · subst hk; exact release_spec h9 hSl hC
    split at hk
    · subst hk; exact setMode_spec h9 hL hSl hC
    · subst hk; exact none_spec hSl hC
  exact key _ rfl hfn
set_option maxHeartbeats 8000000 in
theorem cStep_spec {B : Nat} (h9 : T + 2 ≤ 900) (hB : p.bytes = B) (hp : p.right = true) (hL : LexAt W [vm, vd, va] L) (hok : LexOK L) (hd : j.data.length ≤ 40) (hfn : j.fn = stepF j.kind) (hdn : j.done = false) (hst : 0 ≤ j.steps ∧ j.steps ≤ 1000000000) (hJ : JOK p j) (hn : nearO B s.all.length σ) (hSl : SlotOK vm vd va L j.ps fj σ) (hC : Cur W pc vm vd va L p T x s (jF pj j :: fj :: Fs) w) :
    Calls Tryz.prog 13 #[.pointer (some ⟨pc, 0, none⟩), .pointer (some ⟨pj, 0, none⟩)] w fun e w' => ∃ (er n : Int) (t : Tok) (done : Bool) (j' : JB) (fj' : Frag) (σ' : Option SC) (s' : WS) (x' : CU) (T' : Nat), e = .returned (.tuple #[resV er n t, .bool done]) ∧ SlotOK vm vd va L j'.ps fj' σ' ∧
    (j'.kind = j.kind ∧ j'.fn = j.fn ∧ j'.data = j.data ∧ j'.steps = j.steps + 1 ∧ j'.done = done) ∧ T' ≤ T + 2 ∧
    (done = false → T' = T ∧ s'.all = s.all ∧ s'.low = s.low ∧ s.fl ≤ s'.fl ∧ nearO B s.all.length σ' ∧ pot p B s' j' σ' < pot p B s j σ ∧ JOK p j') ∧
    Cur W pc vm vd va L p T' x' s' (jF pj j' :: fj' :: Fs) w' := by
  obtain ⟨sl, fw, fm, fa, fB, hK, hg⟩ := hC
  simp only [cuF, jF] at hg
  rw [hdn] at hg
  obtain ⟨fn, hFn⟩ := stepF_fun j.kind
  rw [← hfn] at hFn
  by_cases h0 : j.steps = 0
  · rw [h0] at hg
    refine enter Tryz.func13 rfl (by simp only [Tryz.ntmps13, List.length_cons, List.length_nil, Nat.reduceAdd, Nat.reduceSub, List.replicate_succ, List.replicate_zero, List.cons_append, List.nil_append]; exact rfl) ?_
    repeat' (first | refine zN ?_ | ((with_reducible refine WQ.nilG ?_); intro w hg) | (refine zB ?_; clear hg; intro b w hg; refine WO.fr ?_) | (refine zW ?_; clear hg; intro w hg; refine WO.fr ?_) | (refine op_pureB hg ?_; clear hg; intro w hg c hc; cases c <;> refine WO.fr ?_))
    refine op_callV (H := hFn) (job_spec (j := { j with steps := 0 + 1, at' := x.na, md := x.nmd, done := false }) h9 hB hp hL hok hd hfn ⟨hJ.pk, hJ.tk⟩ hn hSl ⟨sl, fw, fm, fa, fB, hK, (((((((hg.front 7).front 7).front 7).front 7).front 7).front 7).front 7)⟩) ?_
    clear hg hK
    rintro _ w ⟨er, n, t, done, j', fj', σ', s', x', T', rfl, hS1, he, hT', hD, sl, fw, fm, fa, fB, hK, hg⟩
    replace hg := ((((((((hg.front 6).front 6).front 6).front 6).front 6).front 6).front 6).front 7)
    simp only [pull, pullIn, cuF, jF] at hg
    simp only [resV]
    refine ⟨_, rfl, ?_⟩
    refine WO.fr ?_
    repeat' (first | refine zN ?_ | ((with_reducible refine WQ.nilG ?_); intro w hg) | (refine zB ?_; clear hg; intro b w hg; refine WO.fr ?_) | (refine zW ?_; clear hg; intro w hg; refine WO.fr ?_) | (refine op_pureB hg ?_; clear hg; intro w hg c hc; cases c <;> refine WO.fr ?_))
    exact ret (.cells rfl (by first | with_reducible assumption | ((with_reducible apply Cells.ldn); (first | with_reducible assumption | ((with_reducible apply hg.cells0); with_reducible assumption) | with_reducible exact r1 hg | with_reducible exact r2 hg | with_reducible exact r3 hg | with_reducible exact r4 hg | with_reducible exact r5 hg | with_reducible exact t1 hs | with_reducible exact t2 hs | with_reducible exact t3 hs | with_reducible exact t4 hs); exact rfl) | ((with_reducible apply CellsAt.ldn (hg := hg)); (repeat (first | ((with_reducible apply CellsAt.whole); exact rfl) | ((with_reducible apply CellsAt.here) <;> first | with_reducible assumption | (simp only [List.drop_zero, List.drop_succ_cons, List.take_succ_cons, List.take_zero]; exact rfl) | exact rfl) | with_reducible apply CellsAt.more | with_reducible apply CellsAt.next)); done)) (.tmp rfl .nil)) ⟨er, n, t, done, { j' with done := done }, fj', σ', s', x', T', rfl, hS1, ⟨by rw [he], by rw [he], by rw [he], by rw [he]; dsimp only; omega, rfl⟩, hT', fun h => by
      obtain ⟨a1, a2, a3, a4, a5, a6, a7⟩ := hD h
      exact ⟨a1, a2, a3, a4, a5, a6, ⟨a7.pk, a7.tk⟩⟩, sl, fw, fm, fa, fB, hK, hg.drop0.drop0⟩
  · refine enter Tryz.func13 rfl (by simp only [Tryz.ntmps13, List.length_cons, List.length_nil, Nat.reduceAdd, Nat.reduceSub, List.replicate_succ, List.replicate_zero, List.cons_append, List.nil_append]; exact rfl) ?_
    repeat' (first | refine zN ?_ | ((with_reducible refine WQ.nilG ?_); intro w hg) | (refine zB ?_; clear hg; intro b w hg; refine WO.fr ?_) | (refine zW ?_; clear hg; intro w hg; refine WO.fr ?_) | (refine op_pureB hg ?_; clear hg; intro w hg c hc; cases c <;> refine WO.fr ?_))
    refine op_callV (H := hFn) (job_spec (j := { j with steps := j.steps + 1, done := false }) h9 hB hp hL hok hd hfn ⟨hJ.pk, hJ.tk⟩ hn hSl ⟨sl, fw, fm, fa, fB, hK, (((((((hg.front 7).front 7).front 7).front 7).front 7).front 7).front 7)⟩) ?_
    clear hg hK
    rintro _ w ⟨er, n, t, done, j', fj', σ', s', x', T', rfl, hS1, he, hT', hD, sl, fw, fm, fa, fB, hK, hg⟩
    replace hg := ((((((((hg.front 6).front 6).front 6).front 6).front 6).front 6).front 6).front 7)
    simp only [pull, pullIn, cuF, jF] at hg
    simp only [resV]
    refine ⟨_, rfl, ?_⟩
    refine WO.fr ?_
    repeat' (first | refine zN ?_ | ((with_reducible refine WQ.nilG ?_); intro w hg) | (refine zB ?_; clear hg; intro b w hg; refine WO.fr ?_) | (refine zW ?_; clear hg; intro w hg; refine WO.fr ?_) | (refine op_pureB hg ?_; clear hg; intro w hg c hc; cases c <;> refine WO.fr ?_))
    exact ret (.cells rfl (by first | with_reducible assumption | ((with_reducible apply Cells.ldn); (first | with_reducible assumption | ((with_reducible apply hg.cells0); with_reducible assumption) | with_reducible exact r1 hg | with_reducible exact r2 hg | with_reducible exact r3 hg | with_reducible exact r4 hg | with_reducible exact r5 hg | with_reducible exact t1 hs | with_reducible exact t2 hs | with_reducible exact t3 hs | with_reducible exact t4 hs); exact rfl) | ((with_reducible apply CellsAt.ldn (hg := hg)); (repeat (first | ((with_reducible apply CellsAt.whole); exact rfl) | ((with_reducible apply CellsAt.here) <;> first | with_reducible assumption | (simp only [List.drop_zero, List.drop_succ_cons, List.take_succ_cons, List.take_zero]; exact rfl) | exact rfl) | with_reducible apply CellsAt.more | with_reducible apply CellsAt.next)); done)) (.tmp rfl .nil)) ⟨er, n, t, done, { j' with done := done }, fj', σ', s', x', T', rfl, hS1, ⟨by rw [he], by rw [he], by rw [he], by rw [he], rfl⟩, hT', fun h => by
      obtain ⟨a1, a2, a3, a4, a5, a6, a7⟩ := hD h
      exact ⟨a1, a2, a3, a4, a5, a6, ⟨a7.pk, a7.tk⟩⟩, sl, fw, fm, fa, fB, hK, hg.drop0.drop0⟩
end
end Go.Proofs.YtkdidefghbeabaaGreat
namespace Go.Proofs.YtkdidefghbeabaaGreat
open Go Go.RowKit
set_option maxRecDepth 10000
set_option linter.unusedSimpArgs false
set_option linter.unusedVariables false
theorem Goes.drop3 {w0 w : World} {M : List Nat} {f0 f1 f2 f3 f4 : Frag} {Fs : List Frag} (h : Goes w0 M (f0 :: f1 :: f2 :: f3 :: f4 :: Fs) w) : Goes w0 M (f0 :: f1 :: f2 :: [] :: f4 :: Fs) w := h.sub (by simp)
section
variable {W : World} {pc pj : Nat} {vm vd va : Value} {L : PLex} {p : Prm} {T : Nat} {x : CU} {s : WS} {Fs : List Frag} {w : World}
set_option maxHeartbeats 8000000 in
theorem cScan_spec {B : Nat} (hB : p.bytes = B) (hp : p.right = true) (hL : LexAt W [vm, vd, va] L) (hok : LexOK L) (hC : Cur W pc vm vd va L p T x s Fs w) :
    Calls Tryz.prog 14 #[.pointer (some ⟨pc, 0, none⟩)] w fun e w' => ∃ (b : Bool) (s' : WS) (x' : CU), e = .returned (.bool b) ∧ s'.fl = s.fl ∧ s'.low = s.low ∧ s'.all = s.all ∧ Cur W pc vm vd va L p T x' s' Fs w' := by
  obtain ⟨sl, fw, fm, fa, fB, hK, hg⟩ := hC
  have hr := right_iff.1 hp
  simp only [cuF] at hg
  refine enter Tryz.func14 rfl (by simp only [Tryz.ntmps14, List.length_cons, List.length_nil, Nat.reduceAdd, Nat.reduceSub, List.replicate_succ, List.replicate_zero, List.cons_append, List.nil_append]; exact rfl) ?_
  repeat' ((fail_if_success (with_reducible refine WC.at 3 ?_)); first | refine zO ?_ | ((with_reducible refine WQ.nilG ?_); intro w hg) | (refine zB ?_; clear hg; intro b w hg; refine WO.fr ?_) | (refine zW ?_; clear hg; intro w hg; refine WO.fr ?_) | (refine op_pureB hg ?_; clear hg; intro w hg c hc; cases c <;> refine WO.fr ?_))
  refine WC.cut [8, 9, 10, 11, 12, 13, 14, 15, 16, 17, 18, 19, 20, 21, 22, 23, 24, 25, 26, 27, 28, 29, 30, 31, 32, 33, 34, 35] (fun xs w => ∃ (x1 : CU) (fa1 : Frag), CurOK vm vd va L p T x1 s sl fw fm fa1 fB ∧ Goes W [] (cuF pc vm vd va p x1 :: fw :: fm :: fa1 :: fB :: Fs) w) ?_ ?_
  · have s1 : ∀ {w : World}, (w.heap[pc]? = some (.cells [vm, vd, va, .int .i64 p.bytes, .int .i64 p.trail, .int .i64 p.marks, .int .i64 p.ahead, .int .i64 p.tickets, .int .i64 p.retries, .int .i64 p.step, .pointer (some ⟨x.pw, 0, none⟩), .bool x.closed, .int .i64 x.na, .int .i64 x.nmd, .int .i64 x.dp, .slice x.sa x.sn x.sc, .pointer (some ⟨x.pm, 0, none⟩), .int .i64 x.ep, .int .i64 x.aa, .int .i64 x.amd, .int .i64 x.al, .int .i64 x.ae, ptrO x.ps].toArray 82 (0, 0))) → w.cell? ⟨pc, 21, none⟩ = some (.int .i64 x.ae) := fun h => heap_cell h rfl
    have s2 : ∀ {w : World}, (w.heap[pc]? = some (.cells [vm, vd, va, .int .i64 p.bytes, .int .i64 p.trail, .int .i64 p.marks, .int .i64 p.ahead, .int .i64 p.tickets, .int .i64 p.retries, .int .i64 p.step, .pointer (some ⟨x.pw, 0, none⟩), .bool x.closed, .int .i64 x.na, .int .i64 x.nmd, .int .i64 x.dp, .slice x.sa x.sn x.sc, .pointer (some ⟨x.pm, 0, none⟩), .int .i64 x.ep, .int .i64 x.aa, .int .i64 x.amd, .int .i64 x.al, .int .i64 x.ae, ptrO x.ps].toArray 82 (0, 0))) → w.cell? ⟨pc, 17, none⟩ = some (.int .i64 x.ep) := fun h => heap_cell h rfl
    repeat' (first | refine zN ?_ | ((with_reducible refine WQ.nilG ?_); intro w hg) | (refine zB ?_; clear hg; intro b w hg; refine WO.fr ?_) | (refine zW ?_; clear hg; intro w hg; refine WO.fr ?_) | (refine op_pureB hg ?_; clear hg; intro w hg c hc; cases c <;> refine WO.fr ?_))
    by_cases he : x.ae = x.ep
    · skip
      refine WC.drawn (fun w => w.heap[pc]? = some (.cells [vm, vd, va, .int .i64 p.bytes, .int .i64 p.trail, .int .i64 p.marks, .int .i64 p.ahead, .int .i64 p.tickets, .int .i64 p.retries, .int .i64 p.step, .pointer (some ⟨x.pw, 0, none⟩), .bool x.closed, .int .i64 x.na, .int .i64 x.nmd, .int .i64 x.dp, .slice x.sa x.sn x.sc, .pointer (some ⟨x.pm, 0, none⟩), .int .i64 x.ep, .int .i64 x.aa, .int .i64 x.amd, .int .i64 x.al, .int .i64 x.ae, ptrO x.ps].toArray 82 (0, 0))) [] hg ?_
      clear hg
      intro w hg
      have hS : (fun w => w.heap[pc]? = some (.cells [vm, vd, va, .int .i64 p.bytes, .int .i64 p.trail, .int .i64 p.marks, .int .i64 p.ahead, .int .i64 p.tickets, .int .i64 p.retries, .int .i64 p.step, .pointer (some ⟨x.pw, 0, none⟩), .bool x.closed, .int .i64 x.na, .int .i64 x.nmd, .int .i64 x.dp, .slice x.sa x.sn x.sc, .pointer (some ⟨x.pm, 0, none⟩), .int .i64 x.ep, .int .i64 x.aa, .int .i64 x.amd, .int .i64 x.al, .int .i64 x.ae, ptrO x.ps].toArray 82 (0, 0))) w := hg.own (pc, .cells [vm, vd, va, .int .i64 p.bytes, .int .i64 p.trail, .int .i64 p.marks, .int .i64 p.ahead, .int .i64 p.tickets, .int .i64 p.retries, .int .i64 p.step, .pointer (some ⟨x.pw, 0, none⟩), .bool x.closed, .int .i64 x.na, .int .i64 x.nmd, .int .i64 x.dp, .slice x.sa x.sn x.sc, .pointer (some ⟨x.pm, 0, none⟩), .int .i64 x.ep, .int .i64 x.aa, .int .i64 x.amd, .int .i64 x.al, .int .i64 x.ae, ptrO x.ps].toArray 82 (0, 0)) (by simp)
      refine WA.passM 0 hS ?_
      refine WA.passM 1 hS ?_
      refine WA.passM 2 hS ?_
      refine WA.passM 3 hS ?_
      refine WA.passM 5 hS ?_
      refine WA.passM 6 hS ?_
      refine WA.passM 7 hS ?_
      refine WA.passM 4 hS ?_
      refine WA.passM 8 hS ?_
      refine WA.passM 9 hS ?_
      refine WA.nil ?_
      clear hS s1 s2
      repeat' (first | refine zN ?_ | ((with_reducible refine WQ.nilG ?_); intro w hg) | (refine zB ?_; clear hg; intro b w hg; refine WO.fr ?_) | (refine zW ?_; clear hg; intro w hg; refine WO.fr ?_) | (refine op_pureB hg ?_; clear hg; intro w hg c hc; cases c <;> refine WO.fr ?_))
      with_reducible refine CutQ.mk ?_ ?_
      · simp only [setAll, List.map_cons, List.map_nil, gt, List.set_cons_succ, List.set_cons_zero]
      try simp only [List.map_cons, List.map_nil, gt]
      exact ⟨x, fa, hK, hg⟩
    · skip
      refine WC.drawn (fun w => w.heap[pc]? = some (.cells [vm, vd, va, .int .i64 p.bytes, .int .i64 p.trail, .int .i64 p.marks, .int .i64 p.ahead, .int .i64 p.tickets, .int .i64 p.retries, .int .i64 p.step, .pointer (some ⟨x.pw, 0, none⟩), .bool x.closed, .int .i64 x.na, .int .i64 x.nmd, .int .i64 x.dp, .slice x.sa x.sn x.sc, .pointer (some ⟨x.pm, 0, none⟩), .int .i64 x.ep, .int .i64 x.aa, .int .i64 x.amd, .int .i64 x.al, .int .i64 x.ae, ptrO x.ps].toArray 82 (0, 0))) [] hg ?_
      clear hg
      intro w hg
      have hS : (fun w => w.heap[pc]? = some (.cells [vm, vd, va, .int .i64 p.bytes, .int .i64 p.trail, .int .i64 p.marks, .int .i64 p.ahead, .int .i64 p.tickets, .int .i64 p.retries, .int .i64 p.step, .pointer (some ⟨x.pw, 0, none⟩), .bool x.closed, .int .i64 x.na, .int .i64 x.nmd, .int .i64 x.dp, .slice x.sa x.sn x.sc, .pointer (some ⟨x.pm, 0, none⟩), .int .i64 x.ep, .int .i64 x.aa, .int .i64 x.amd, .int .i64 x.al, .int .i64 x.ae, ptrO x.ps].toArray 82 (0, 0))) w := hg.own (pc, .cells [vm, vd, va, .int .i64 p.bytes, .int .i64 p.trail, .int .i64 p.marks, .int .i64 p.ahead, .int .i64 p.tickets, .int .i64 p.retries, .int .i64 p.step, .pointer (some ⟨x.pw, 0, none⟩), .bool x.closed, .int .i64 x.na, .int .i64 x.nmd, .int .i64 x.dp, .slice x.sa x.sn x.sc, .pointer (some ⟨x.pm, 0, none⟩), .int .i64 x.ep, .int .i64 x.aa, .int .i64 x.amd, .int .i64 x.al, .int .i64 x.ae, ptrO x.ps].toArray 82 (0, 0)) (by simp)
      refine WA.passM 0 hS ?_
      refine WA.passM 1 hS ?_
      refine WA.passM 2 hS ?_
      refine WA.passM 3 hS ?_
      refine WA.passM 5 hS ?_
      refine WA.passM 6 hS ?_
      refine WA.passM 7 hS ?_
      refine WA.passM 4 hS ?_
      refine WA.passM 8 hS ?_
      refine WA.passM 9 hS ?_
      refine WA.nil ?_
      clear hS s1
      have s1 : ∀ {w : World}, (w.heap[pc]? = some (.cells [vm, vd, va, .int .i64 p.bytes, .int .i64 p.trail, .int .i64 p.marks, .int .i64 p.ahead, .int .i64 p.tickets, .int .i64 p.retries, .int .i64 p.step, .pointer (some ⟨x.pw, 0, none⟩), .bool x.closed, .int .i64 x.na, .int .i64 x.nmd, .int .i64 x.dp, .slice x.sa x.sn x.sc, .pointer (some ⟨x.pm, 0, none⟩), .int .i64 x.ep, .int .i64 x.aa, .int .i64 x.amd, .int .i64 x.al, .int .i64 x.ae, ptrO x.ps].toArray 82 (0, 0))) → w.cell? ⟨pc, 6, none⟩ = some (.int .i64 p.ahead) := fun h => heap_cell h rfl
      have t1 : ∀ {w : World}, (w.heap[pc]? = some (.cells [vm, vd, va, .int .i64 p.bytes, .int .i64 p.trail, .int .i64 p.marks, .int .i64 p.ahead, .int .i64 p.tickets, .int .i64 p.retries, .int .i64 p.step, .pointer (some ⟨x.pw, 0, none⟩), .bool x.closed, .int .i64 x.na, .int .i64 x.nmd, .int .i64 x.dp, .slice x.sa x.sn x.sc, .pointer (some ⟨x.pm, 0, none⟩), .int .i64 x.ep, .int .i64 x.aa, .int .i64 x.amd, .int .i64 x.al, .int .i64 x.ae, ptrO x.ps].toArray 82 (0, 0))) → Cells w ⟨pc, 12, none⟩ [.int .i64 x.na, .int .i64 x.nmd] := fun h => heap_cells h rfl
      repeat' (first | refine zN ?_ | ((with_reducible refine WQ.nilG ?_); intro w hg) | (refine zB ?_; clear hg; intro b w hg; refine WO.fr ?_) | (refine zW ?_; clear hg; intro w hg; refine WO.fr ?_) | (refine op_pureB hg ?_; clear hg; intro w hg c hc; cases c <;> refine WO.fr ?_))
      refine WC.drawn (fun w => w.heap[pc]? = some (.cells [vm, vd, va, .int .i64 p.bytes, .int .i64 p.trail, .int .i64 p.marks, .int .i64 p.ahead, .int .i64 p.tickets, .int .i64 p.retries, .int .i64 p.step, .pointer (some ⟨x.pw, 0, none⟩), .bool x.closed, .int .i64 x.na, .int .i64 x.nmd, .int .i64 x.dp, .slice x.sa x.sn x.sc, .pointer (some ⟨x.pm, 0, none⟩), .int .i64 x.ep, .int .i64 x.aa, .int .i64 x.amd, .int .i64 x.al, .int .i64 x.ae, ptrO x.ps].toArray 82 (0, 0))) [18] hg ?_
      clear hg
      intro w hg
      have hS : (fun w => w.heap[pc]? = some (.cells [vm, vd, va, .int .i64 p.bytes, .int .i64 p.trail, .int .i64 p.marks, .int .i64 p.ahead, .int .i64 p.tickets, .int .i64 p.retries, .int .i64 p.step, .pointer (some ⟨x.pw, 0, none⟩), .bool x.closed, .int .i64 x.na, .int .i64 x.nmd, .int .i64 x.dp, .slice x.sa x.sn x.sc, .pointer (some ⟨x.pm, 0, none⟩), .int .i64 x.ep, .int .i64 x.aa, .int .i64 x.amd, .int .i64 x.al, .int .i64 x.ae, ptrO x.ps].toArray 82 (0, 0))) w := hg.own (pc, .cells [vm, vd, va, .int .i64 p.bytes, .int .i64 p.trail, .int .i64 p.marks, .int .i64 p.ahead, .int .i64 p.tickets, .int .i64 p.retries, .int .i64 p.step, .pointer (some ⟨x.pw, 0, none⟩), .bool x.closed, .int .i64 x.na, .int .i64 x.nmd, .int .i64 x.dp, .slice x.sa x.sn x.sc, .pointer (some ⟨x.pm, 0, none⟩), .int .i64 x.ep, .int .i64 x.aa, .int .i64 x.amd, .int .i64 x.al, .int .i64 x.ae, ptrO x.ps].toArray 82 (0, 0)) (by simp)
      refine WA.passM 0 hS ?_
      refine WA.passM 1 hS ?_
      refine WA.passM 2 hS ?_
      refine WA.passM 3 hS ?_
      refine WA.passM 4 hS ?_
      refine WA.passM 6 hS ?_
      refine WA.passM 7 hS ?_
      refine WA.passM 8 hS ?_
      refine WA.passM 9 hS ?_
      refine WA.passM 11 hS ?_
      refine WA.passM 12 hS ?_
      refine WA.passM 13 hS ?_
      refine WA.passM 5 hS ?_
      refine WA.passM 10 hS ?_
      refine WA.passM 14 hS ?_
      refine WA.passM 15 hS ?_
      refine WA.passM 16 hS ?_
      refine WA.passM 17 hS ?_
      refine WA.only 18 ?_
      refine op_stA hg ?_
      clear hg hS
      intro w hg
      refine WO.fr ?_
      refine WO.nilL ?_
      refine WA.nil ?_
      clear s1 s2 t1
      with_reducible refine CutQ.mk ?_ ?_
      · simp only [setAll, List.map_cons, List.map_nil, gt, List.set_cons_succ, List.set_cons_zero]
      try simp only [List.map_cons, List.map_nil, gt]
      exact ⟨{ x with aa := x.na, amd := x.nmd, al := p.ahead, ae := x.ep, ps := none }, [], ⟨hK.w, hK.k, hK.al, hK.m, hK.ms, hK.mn, hK.b, hK.e, hK.t, by dsimp only; omega, none, .nil⟩, hg.drop3⟩
  clear hg hK
  intro xs w hlen hI
  replace hlen := len_cons hlen
  obtain ⟨x8, xs, rfl, hlen⟩ := hlen
  replace hlen := len_cons hlen
  obtain ⟨x9, xs, rfl, hlen⟩ := hlen
  replace hlen := len_cons hlen
  obtain ⟨x10, xs, rfl, hlen⟩ := hlen
  replace hlen := len_cons hlen
  obtain ⟨x11, xs, rfl, hlen⟩ := hlen
  replace hlen := len_cons hlen
  obtain ⟨x12, xs, rfl, hlen⟩ := hlen
  replace hlen := len_cons hlen
  obtain ⟨x13, xs, rfl, hlen⟩ := hlen
  replace hlen := len_cons hlen
  obtain ⟨x14, xs, rfl, hlen⟩ := hlen
  replace hlen := len_cons hlen
  obtain ⟨x15, xs, rfl, hlen⟩ := hlen
  replace hlen := len_cons hlen
  obtain ⟨x16, xs, rfl, hlen⟩ := hlen
  replace hlen := len_cons hlen
  obtain ⟨x17, xs, rfl, hlen⟩ := hlen
  replace hlen := len_cons hlen
  obtain ⟨x18, xs, rfl, hlen⟩ := hlen
  replace hlen := len_cons hlen
  obtain ⟨x19, xs, rfl, hlen⟩ := hlen
  replace hlen := len_cons hlen
  obtain ⟨x20, xs, rfl, hlen⟩ := hlen
  replace hlen := len_cons hlen
  obtain ⟨x21, xs, rfl, hlen⟩ := hlen
  replace hlen := len_cons hlen
  obtain ⟨x22, xs, rfl, hlen⟩ := hlen
  replace hlen := len_cons hlen
  obtain ⟨x23, xs, rfl, hlen⟩ := hlen
  replace hlen := len_cons hlen
  obtain ⟨x24, xs, rfl, hlen⟩ := hlen
  replace hlen := len_cons hlen
  obtain ⟨x25, xs, rfl, hlen⟩ := hlen
  replace hlen := len_cons hlen
  obtain ⟨x26, xs, rfl, hlen⟩ := hlen
  replace hlen := len_cons hlen
  obtain ⟨x27, xs, rfl, hlen⟩ := hlen
  replace hlen := len_cons hlen
  obtain ⟨x28, xs, rfl, hlen⟩ := hlen
  replace hlen := len_cons hlen
  obtain ⟨x29, xs, rfl, hlen⟩ := hlen
  replace hlen := len_cons hlen
  obtain ⟨x30, xs, rfl, hlen⟩ := hlen
  replace hlen := len_cons hlen
  obtain ⟨x31, xs, rfl, hlen⟩ := hlen
  replace hlen := len_cons hlen
  obtain ⟨x32, xs, rfl, hlen⟩ := hlen
  replace hlen := len_cons hlen
  obtain ⟨x33, xs, rfl, hlen⟩ := hlen
  replace hlen := len_cons hlen
  obtain ⟨x34, xs, rfl, hlen⟩ := hlen
  replace hlen := len_cons hlen
  obtain ⟨x35, xs, rfl, hlen⟩ := hlen
  replace hlen := len_nil hlen
  subst hlen
  refine QX.frame (by simp only [setAll, List.set_cons_succ, List.set_cons_zero]; exact rfl) ?_
  try simp only [gt] at hI
  clear hr
  obtain ⟨x, fa, hK, hg⟩ := hI
  have hal := hK.al
  have ht := hK.t
  have hl := hK.l
  simp only [cuF] at hg
  by_cases h0 : x.al = 0
  · repeat' (first | refine zN ?_ | ((with_reducible refine WQ.nilG ?_); intro w hg) | (refine zB ?_; clear hg; intro b w hg; refine WO.fr ?_) | (refine zW ?_; clear hg; intro w hg; refine WO.fr ?_) | (refine op_pureB hg ?_; clear hg; intro w hg c hc; cases c <;> refine WO.fr ?_))
    exact ret1 rfl ⟨false, s, x, rfl, rfl, rfl, rfl, sl, fw, fm, fa, fB, hK, hg⟩
  repeat' (first | refine zN ?_ | ((with_reducible refine WQ.nilG ?_); intro w hg) | (refine zB ?_; clear hg; intro b w hg; refine WO.fr ?_) | (refine zW ?_; clear hg; intro w hg; refine WO.fr ?_) | (refine op_pureB hg ?_; clear hg; intro w hg c hc; cases c <;> refine WO.fr ?_))
  obtain ⟨σ, hSl⟩ := hK.a
  have t1 : ∀ {w : World}, (∃ v, w.heap[pc]? = some (.cells [vm, vd, va, .int .i64 p.bytes, .int .i64 p.trail, .int .i64 p.marks, .int .i64 p.ahead, .int .i64 p.tickets, .int .i64 p.retries, .int .i64 p.step, .pointer (some ⟨x.pw, 0, none⟩), .bool x.closed, .int .i64 x.na, .int .i64 x.nmd, .int .i64 x.dp, .slice x.sa x.sn x.sc, .pointer (some ⟨x.pm, 0, none⟩), .int .i64 x.ep, .int .i64 x.aa, .int .i64 x.amd, .int .i64 x.al, .int .i64 x.ae, ptrO v].toArray 82 (0, 0))) → Cells w ⟨pc, 18, none⟩ [.int .i64 x.aa, .int .i64 x.amd] := fun h => heap_cells h.choose_spec rfl
  have hK1 := aheadSlot pc p vm vd va x
  have hnx : ∀ {w : World} {Fs2 : List Frag}, Goes W [] ([(pc, .cells [vm, vd, va, .int .i64 p.bytes, .int .i64 p.trail, .int .i64 p.marks, .int .i64 p.ahead, .int .i64 p.tickets, .int .i64 p.retries, .int .i64 p.step, .pointer (some ⟨x.pw, 0, none⟩), .bool x.closed, .int .i64 x.na, .int .i64 x.nmd, .int .i64 x.dp, .slice x.sa x.sn x.sc, .pointer (some ⟨x.pm, 0, none⟩), .int .i64 x.ep, .int .i64 x.aa, .int .i64 x.amd, .int .i64 x.al, .int .i64 x.ae, ptrO x.ps].toArray 82 (0, 0))] :: fw :: fm :: fa :: fB :: Fs2) w → Calls Tryz.prog 32 #[.pointer (some ⟨pc, 0, none⟩), .agg [.int .i64 x.aa, .int .i64 x.amd].toArray, .pointer (some ⟨pc, 22, none⟩)] w fun e w' => ∃ (t : Tok) (kn st : Bool) (v' : Option Nat) (fs' : Frag) (σ' : Option SC) (fw' : Frag) (s' : WS), e = .returned (.tuple #[.agg t.enc.toArray, .bool kn, .bool st]) ∧ SlotOK vm vd va L v' fs' σ' ∧ WinF x.pw p s' fw' ∧ WOK p.bytes s' ∧ s'.fl = s.fl ∧ s'.low = s.low ∧ s'.all = s.all ∧ Goes W [] (cuF pc vm vd va p { x with ps := v' } :: fw' :: fm :: fs' :: fB :: Fs2) w' := fun {w Fs2} hg => by
    have h2 := next_spec (Fs := fm :: fB :: Fs2) x.aa x.amd hB hp hK1 hL hok hK.w hK.k (by omega) hSl (((((hg.front 4).front 3).front 4).front 4).front 4)
    refine h2.mono ?_
    rintro e w' ⟨t, kn, st, v', fs', σ', fw', s', he, h3, h4, h5, h6, h7, h8, h9, hg⟩
    refine ⟨t, kn, st, v', fs', σ', fw', s', he, h3, h5, h6, h7, h8, h9, ?_⟩
    exact (((((hg.front 4).front 3).front 4).front 4).front 4)
  refine WC.cut [3, 4, 5, 42, 43, 44, 45, 46, 47, 48, 49, 50, 51, 52, 53, 54, 55, 56] (fun xs w => ∃ (bt : Nat) (t : Tok) (kn st : Bool) (v' : Option Nat) (fs' : Frag) (σ' : Option SC) (fw' : Frag) (s' : WS), (gt xs 0) = .pointer (some ⟨bt, 0, none⟩) ∧ (gt xs 1) = .bool kn ∧ (gt xs 2) = .bool st ∧ SlotOK vm vd va L v' fs' σ' ∧ WinF x.pw p s' fw' ∧ WOK p.bytes s' ∧ s'.fl = s.fl ∧ s'.low = s.low ∧ s'.all = s.all ∧ Goes W [] ([(bt, .cells [.int .i64 t.kind, .int .i64 t.rule, .int .i64 t.fr, .int .i64 t.at', .int .i64 t.to, .int .i64 t.mode].toArray 48 (0, 0))] :: cuF pc vm vd va p { x with ps := v' } :: fw' :: fm :: fs' :: fB :: Fs) w) ?_ ?_
  · skip
    refine WC.drawn (fun w => ∃ v, w.heap[pc]? = some (.cells [vm, vd, va, .int .i64 p.bytes, .int .i64 p.trail, .int .i64 p.marks, .int .i64 p.ahead, .int .i64 p.tickets, .int .i64 p.retries, .int .i64 p.step, .pointer (some ⟨x.pw, 0, none⟩), .bool x.closed, .int .i64 x.na, .int .i64 x.nmd, .int .i64 x.dp, .slice x.sa x.sn x.sc, .pointer (some ⟨x.pm, 0, none⟩), .int .i64 x.ep, .int .i64 x.aa, .int .i64 x.amd, .int .i64 x.al, .int .i64 x.ae, ptrO v].toArray 82 (0, 0))) [] hg ?_
    clear hg
    intro w hg
    have hS : (fun w => ∃ v, w.heap[pc]? = some (.cells [vm, vd, va, .int .i64 p.bytes, .int .i64 p.trail, .int .i64 p.marks, .int .i64 p.ahead, .int .i64 p.tickets, .int .i64 p.retries, .int .i64 p.step, .pointer (some ⟨x.pw, 0, none⟩), .bool x.closed, .int .i64 x.na, .int .i64 x.nmd, .int .i64 x.dp, .slice x.sa x.sn x.sc, .pointer (some ⟨x.pm, 0, none⟩), .int .i64 x.ep, .int .i64 x.aa, .int .i64 x.amd, .int .i64 x.al, .int .i64 x.ae, ptrO v].toArray 82 (0, 0))) w := ⟨x.ps, hg.own (pc, .cells [vm, vd, va, .int .i64 p.bytes, .int .i64 p.trail, .int .i64 p.marks, .int .i64 p.ahead, .int .i64 p.tickets, .int .i64 p.retries, .int .i64 p.step, .pointer (some ⟨x.pw, 0, none⟩), .bool x.closed, .int .i64 x.na, .int .i64 x.nmd, .int .i64 x.dp, .slice x.sa x.sn x.sc, .pointer (some ⟨x.pm, 0, none⟩), .int .i64 x.ep, .int .i64 x.aa, .int .i64 x.amd, .int .i64 x.al, .int .i64 x.ae, ptrO x.ps].toArray 82 (0, 0)) (by simp)⟩
    refine WA.passM 0 hS ?_
    refine WA.passM 1 hS ?_
    refine WA.passM 2 hS ?_
    refine WA.passM 3 hS ?_
    refine WA.passM 4 hS ?_
    refine WA.passM 6 hS ?_
    refine WA.passM 7 hS ?_
    refine WA.passM 8 hS ?_
    refine WA.passM 9 hS ?_
    refine WA.passM 5 hS ?_
    refine WA.two 10 15 ?_ ?_
    · refine op_call (hnx hg) ?_
      clear hg hS
      rintro _ w ⟨t, kn, st, v', fs', σ', fw', s', rfl, h3, h5, h6, h7, h8, h9, hg⟩
      simp only [Tok.enc]
      refine ⟨_, rfl, ?_⟩
      refine WO.fr ?_
      have hS : (fun w => ∃ v, w.heap[pc]? = some (.cells [vm, vd, va, .int .i64 p.bytes, .int .i64 p.trail, .int .i64 p.marks, .int .i64 p.ahead, .int .i64 p.tickets, .int .i64 p.retries, .int .i64 p.step, .pointer (some ⟨x.pw, 0, none⟩), .bool x.closed, .int .i64 x.na, .int .i64 x.nmd, .int .i64 x.dp, .slice x.sa x.sn x.sc, .pointer (some ⟨x.pm, 0, none⟩), .int .i64 x.ep, .int .i64 x.aa, .int .i64 x.amd, .int .i64 x.al, .int .i64 x.ae, ptrO v].toArray 82 (0, 0))) w := ⟨v', hg.own (pc, .cells [vm, vd, va, .int .i64 p.bytes, .int .i64 p.trail, .int .i64 p.marks, .int .i64 p.ahead, .int .i64 p.tickets, .int .i64 p.retries, .int .i64 p.step, .pointer (some ⟨x.pw, 0, none⟩), .bool x.closed, .int .i64 x.na, .int .i64 x.nmd, .int .i64 x.dp, .slice x.sa x.sn x.sc, .pointer (some ⟨x.pm, 0, none⟩), .int .i64 x.ep, .int .i64 x.aa, .int .i64 x.amd, .int .i64 x.al, .int .i64 x.ae, ptrO v'].toArray 82 (0, 0)) (by simp)⟩
      refine WO.nilA hS ?_
      refine WA.passM 11 hS ?_
      refine WA.passM 12 hS ?_
      refine WA.passM 13 hS ?_
      refine WA.passM 14 hS ?_
      refine WA.only 15 ?_
      refine op_alloc hg ?_
      clear hg hS
      intro bt w hg
      refine WO.fr ?_
      have hS : (fun w => ∃ v, w.heap[pc]? = some (.cells [vm, vd, va, .int .i64 p.bytes, .int .i64 p.trail, .int .i64 p.marks, .int .i64 p.ahead, .int .i64 p.tickets, .int .i64 p.retries, .int .i64 p.step, .pointer (some ⟨x.pw, 0, none⟩), .bool x.closed, .int .i64 x.na, .int .i64 x.nmd, .int .i64 x.dp, .slice x.sa x.sn x.sc, .pointer (some ⟨x.pm, 0, none⟩), .int .i64 x.ep, .int .i64 x.aa, .int .i64 x.amd, .int .i64 x.al, .int .i64 x.ae, ptrO v].toArray 82 (0, 0))) w := ⟨v', hg.own (pc, .cells [vm, vd, va, .int .i64 p.bytes, .int .i64 p.trail, .int .i64 p.marks, .int .i64 p.ahead, .int .i64 p.tickets, .int .i64 p.retries, .int .i64 p.step, .pointer (some ⟨x.pw, 0, none⟩), .bool x.closed, .int .i64 x.na, .int .i64 x.nmd, .int .i64 x.dp, .slice x.sa x.sn x.sc, .pointer (some ⟨x.pm, 0, none⟩), .int .i64 x.ep, .int .i64 x.aa, .int .i64 x.amd, .int .i64 x.al, .int .i64 x.ae, ptrO v'].toArray 82 (0, 0)) (by simp)⟩
      refine WO.nilA hS ?_
      refine WA.only 16 ?_
      refine op_stA hg ?_
      clear hg hS
      intro w hg
      refine WO.fr ?_
      have hS : (fun w => ∃ v, w.heap[pc]? = some (.cells [vm, vd, va, .int .i64 p.bytes, .int .i64 p.trail, .int .i64 p.marks, .int .i64 p.ahead, .int .i64 p.tickets, .int .i64 p.retries, .int .i64 p.step, .pointer (some ⟨x.pw, 0, none⟩), .bool x.closed, .int .i64 x.na, .int .i64 x.nmd, .int .i64 x.dp, .slice x.sa x.sn x.sc, .pointer (some ⟨x.pm, 0, none⟩), .int .i64 x.ep, .int .i64 x.aa, .int .i64 x.amd, .int .i64 x.al, .int .i64 x.ae, ptrO v].toArray 82 (0, 0))) w := ⟨v', hg.own (pc, .cells [vm, vd, va, .int .i64 p.bytes, .int .i64 p.trail, .int .i64 p.marks, .int .i64 p.ahead, .int .i64 p.tickets, .int .i64 p.retries, .int .i64 p.step, .pointer (some ⟨x.pw, 0, none⟩), .bool x.closed, .int .i64 x.na, .int .i64 x.nmd, .int .i64 x.dp, .slice x.sa x.sn x.sc, .pointer (some ⟨x.pm, 0, none⟩), .int .i64 x.ep, .int .i64 x.aa, .int .i64 x.amd, .int .i64 x.al, .int .i64 x.ae, ptrO v'].toArray 82 (0, 0)) (by simp)⟩
      refine WO.nilA hS ?_
      refine WA.passM 17 hS ?_
      refine WA.passM 18 hS ?_
      refine WA.nil ?_
      with_reducible refine CutQ.mk ?_ ?_
      · simp only [setAll, List.map_cons, List.map_nil, gt, List.set_cons_succ, List.set_cons_zero]
      try simp only [List.map_cons, List.map_nil, gt]
      exact ⟨bt, t, kn, st, v', fs', σ', fw', s', by trivial, by trivial, by trivial, h3, h5, h6, h7, h8, h9, hg⟩
    · refine op_alloc hg ?_
      clear hg hS
      intro bt w hg
      refine WO.fr ?_
      have hS : (fun w => ∃ v, w.heap[pc]? = some (.cells [vm, vd, va, .int .i64 p.bytes, .int .i64 p.trail, .int .i64 p.marks, .int .i64 p.ahead, .int .i64 p.tickets, .int .i64 p.retries, .int .i64 p.step, .pointer (some ⟨x.pw, 0, none⟩), .bool x.closed, .int .i64 x.na, .int .i64 x.nmd, .int .i64 x.dp, .slice x.sa x.sn x.sc, .pointer (some ⟨x.pm, 0, none⟩), .int .i64 x.ep, .int .i64 x.aa, .int .i64 x.amd, .int .i64 x.al, .int .i64 x.ae, ptrO v].toArray 82 (0, 0))) w := ⟨x.ps, hg.own (pc, .cells [vm, vd, va, .int .i64 p.bytes, .int .i64 p.trail, .int .i64 p.marks, .int .i64 p.ahead, .int .i64 p.tickets, .int .i64 p.retries, .int .i64 p.step, .pointer (some ⟨x.pw, 0, none⟩), .bool x.closed, .int .i64 x.na, .int .i64 x.nmd, .int .i64 x.dp, .slice x.sa x.sn x.sc, .pointer (some ⟨x.pm, 0, none⟩), .int .i64 x.ep, .int .i64 x.aa, .int .i64 x.amd, .int .i64 x.al, .int .i64 x.ae, ptrO x.ps].toArray 82 (0, 0)) (by simp)⟩
      refine WO.nilA hS ?_
      refine WA.only 10 ?_
      replace hg := (((((hg.front 5).front 5).front 5).front 5).front 5)
      refine op_call (hnx hg) ?_
      clear hg hS
      rintro _ w ⟨t, kn, st, v', fs', σ', fw', s', rfl, h3, h5, h6, h7, h8, h9, hg⟩
      simp only [Tok.enc]
      refine ⟨_, rfl, ?_⟩
      refine WO.fr ?_
      have hS : (fun w => ∃ v, w.heap[pc]? = some (.cells [vm, vd, va, .int .i64 p.bytes, .int .i64 p.trail, .int .i64 p.marks, .int .i64 p.ahead, .int .i64 p.tickets, .int .i64 p.retries, .int .i64 p.step, .pointer (some ⟨x.pw, 0, none⟩), .bool x.closed, .int .i64 x.na, .int .i64 x.nmd, .int .i64 x.dp, .slice x.sa x.sn x.sc, .pointer (some ⟨x.pm, 0, none⟩), .int .i64 x.ep, .int .i64 x.aa, .int .i64 x.amd, .int .i64 x.al, .int .i64 x.ae, ptrO v].toArray 82 (0, 0))) w := ⟨v', hg.own (pc, .cells [vm, vd, va, .int .i64 p.bytes, .int .i64 p.trail, .int .i64 p.marks, .int .i64 p.ahead, .int .i64 p.tickets, .int .i64 p.retries, .int .i64 p.step, .pointer (some ⟨x.pw, 0, none⟩), .bool x.closed, .int .i64 x.na, .int .i64 x.nmd, .int .i64 x.dp, .slice x.sa x.sn x.sc, .pointer (some ⟨x.pm, 0, none⟩), .int .i64 x.ep, .int .i64 x.aa, .int .i64 x.amd, .int .i64 x.al, .int .i64 x.ae, ptrO v'].toArray 82 (0, 0)) (by simp)⟩
      refine WO.nilA hS ?_
      refine WA.passM 11 hS ?_
      refine WA.passM 12 hS ?_
      refine WA.passM 13 hS ?_
      refine WA.passM 14 hS ?_
      refine WA.only 16 ?_
      refine op_stA hg ?_
      clear hg hS
      intro w hg
      refine WO.fr ?_
      have hS : (fun w => ∃ v, w.heap[pc]? = some (.cells [vm, vd, va, .int .i64 p.bytes, .int .i64 p.trail, .int .i64 p.marks, .int .i64 p.ahead, .int .i64 p.tickets, .int .i64 p.retries, .int .i64 p.step, .pointer (some ⟨x.pw, 0, none⟩), .bool x.closed, .int .i64 x.na, .int .i64 x.nmd, .int .i64 x.dp, .slice x.sa x.sn x.sc, .pointer (some ⟨x.pm, 0, none⟩), .int .i64 x.ep, .int .i64 x.aa, .int .i64 x.amd, .int .i64 x.al, .int .i64 x.ae, ptrO v].toArray 82 (0, 0))) w := ⟨v', hg.own (pc, .cells [vm, vd, va, .int .i64 p.bytes, .int .i64 p.trail, .int .i64 p.marks, .int .i64 p.ahead, .int .i64 p.tickets, .int .i64 p.retries, .int .i64 p.step, .pointer (some ⟨x.pw, 0, none⟩), .bool x.closed, .int .i64 x.na, .int .i64 x.nmd, .int .i64 x.dp, .slice x.sa x.sn x.sc, .pointer (some ⟨x.pm, 0, none⟩), .int .i64 x.ep, .int .i64 x.aa, .int .i64 x.amd, .int .i64 x.al, .int .i64 x.ae, ptrO v'].toArray 82 (0, 0)) (by simp)⟩
      refine WO.nilA hS ?_
      refine WA.passM 17 hS ?_
      refine WA.passM 18 hS ?_
      refine WA.nil ?_
      with_reducible refine CutQ.mk ?_ ?_
      · simp only [setAll, List.map_cons, List.map_nil, gt, List.set_cons_succ, List.set_cons_zero]
      try simp only [List.map_cons, List.map_nil, gt]
      exact ⟨bt, t, kn, st, v', fs', σ', fw', s', by trivial, by trivial, by trivial, h3, h5, h6, h7, h8, h9, ((((((hg.front 4).front 4).front 4).front 4).front 4).front 5)⟩
  clear hg
  intro xs w hlen hI
  replace hlen := len_cons hlen
  obtain ⟨x3, xs, rfl, hlen⟩ := hlen
  replace hlen := len_cons hlen
  obtain ⟨x4, xs, rfl, hlen⟩ := hlen
  replace hlen := len_cons hlen
  obtain ⟨x5, xs, rfl, hlen⟩ := hlen
  replace hlen := len_cons hlen
  obtain ⟨x42, xs, rfl, hlen⟩ := hlen
  replace hlen := len_cons hlen
  obtain ⟨x43, xs, rfl, hlen⟩ := hlen
  replace hlen := len_cons hlen
  obtain ⟨x44, xs, rfl, hlen⟩ := hlen
  replace hlen := len_cons hlen
  obtain ⟨x45, xs, rfl, hlen⟩ := hlen
  replace hlen := len_cons hlen
  obtain ⟨x46, xs, rfl, hlen⟩ := hlen
  replace hlen := len_cons hlen
  obtain ⟨x47, xs, rfl, hlen⟩ := hlen
  replace hlen := len_cons hlen
  obtain ⟨x48, xs, rfl, hlen⟩ := hlen
  replace hlen := len_cons hlen
  obtain ⟨x49, xs, rfl, hlen⟩ := hlen
  replace hlen := len_cons hlen
  obtain ⟨x50, xs, rfl, hlen⟩ := hlen
  replace hlen := len_cons hlen
  obtain ⟨x51, xs, rfl, hlen⟩ := hlen
  replace hlen := len_cons hlen
  obtain ⟨x52, xs, rfl, hlen⟩ := hlen
  replace hlen := len_cons hlen
  obtain ⟨x53, xs, rfl, hlen⟩ := hlen
  replace hlen := len_cons hlen
  obtain ⟨x54, xs, rfl, hlen⟩ := hlen
  replace hlen := len_cons hlen
  obtain ⟨x55, xs, rfl, hlen⟩ := hlen
  replace hlen := len_cons hlen
  obtain ⟨x56, xs, rfl, hlen⟩ := hlen
  replace hlen := len_nil hlen
  subst hlen
  refine QX.frame (by simp only [setAll, List.set_cons_succ, List.set_cons_zero]; exact rfl) ?_
  try simp only [gt] at hI
  clear hnx t1
  obtain ⟨bt, t, kn, st, v', fs', σ', fw', s', rfl, rfl, rfl, h3, h5, h6, h7, h8, h9, hg⟩ := hI
  simp only [cuF] at hg
  cases kn
  · repeat' (first | refine zN ?_ | ((with_reducible refine WQ.nilG ?_); intro w hg) | (refine zB ?_; clear hg; intro b w hg; refine WO.fr ?_) | (refine zW ?_; clear hg; intro w hg; refine WO.fr ?_) | (refine op_pureB hg ?_; clear hg; intro w hg c hc; cases c <;> refine WO.fr ?_))
    exact ret1 rfl ⟨!st, s', { x with ps := v' }, rfl, h7, h8, h9, sl, fw', fm, fs', fB, ⟨h5, h6, by rw [h9]; exact hK.al, hK.m, hK.ms, hK.mn, hK.b, hK.e, hK.t, hK.l, _, h3⟩, hg.drop0⟩
  · have p1 : ∀ {w' Fs}, Goes W [] Fs w' → Calls Tryz.prog 33 #[.agg t.enc.toArray] w' _ := fun h => behind_spec _ t
    simp only [Tok.enc] at p1
    repeat' (first | refine zN ?_ | ((with_reducible refine WQ.nilG ?_); intro w hg) | (refine zB ?_; clear hg; intro b w hg; refine WO.fr ?_) | (refine zW ?_; clear hg; intro w hg; refine WO.fr ?_) | (refine op_pureB hg ?_; clear hg; intro w hg c hc; cases c <;> refine WO.fr ?_))
    exact ret1 rfl ⟨!st, s', { x with ps := v', aa := t.to, amd := t.mode, al := x.al - 1 }, rfl, h7, h8, h9, sl, fw', fm, fs', fB, ⟨h5, h6, by rw [h9]; exact hK.al, hK.m, hK.ms, hK.mn, hK.b, hK.e, hK.t, by dsimp only; omega, _, h3⟩, hg.drop0⟩
end
end Go.Proofs.YtkdidefghbeabaaGreat
namespace Go.Proofs.YtkdidefghbeabaaGreat
open Go Go.RowKit
set_option maxRecDepth 10000
set_option linter.unusedSimpArgs false
set_option linter.unusedVariables false
theorem Goes.newC {w0 w : World} {M : List Nat} {f0 f1 f2 f3 f4 f5 : Frag} {Fs : List Frag} (h : Goes w0 M (f0 :: f1 :: f2 :: f3 :: f4 :: f5 :: Fs) w) : Goes w0 M (f0 :: f3 :: f1 :: [] :: [] :: Fs) w := by
  have hg := h
  have h2 := (((((((hg.front 1).front 3).front 2).front 5).front 5).front 5)).drop0.drop0.drop0
  exact h2.sub (by simp)
section
variable {W : World} {vm vd va : Value} {L : PLex} {p : Prm} {Fs : List Frag} {w : World}
set_option maxHeartbeats 8000000 in
theorem cNew_spec (md : Int) (hp : p.right = true) (hL : LexAt W [vm, vd, va] L) (hok : LexOK L) (hm : 0 ≤ md ∧ md < L.modes.length) (hg : Goes W [] Fs w) :
    Calls Tryz.prog 8 #[.agg #[vm, vd, va], .int .i64 md, .agg p.enc.toArray] w fun e w' => ∃ (pc : Nat) (x : CU), e = .returned (.tuple #[.pointer (some ⟨pc, 0, none⟩), .int .i64 0]) ∧ Cur W pc vm vd va L p 1 x WS.zero Fs w' := by
  obtain ⟨am, cm, hvm⟩ : ∃ am cm, vm = .slice am L.modes.length cm := by
    obtain ⟨_, _, _, he, ⟨am, cm, rfl, _⟩, _, _⟩ := hL
    simp only [List.cons.injEq] at he
    exact ⟨am, cm, he.1⟩
  subst hvm
  have hr := right_iff.1 hp
  have p1 : ∀ {w Fs}, Goes W [] Fs w → Calls Tryz.prog 23 #[.agg #[.slice am L.modes.length cm, vd, va]] w _ := fun h => tRight_spec _ [.slice am L.modes.length cm, vd, va] L (hL.goes h) hok
  have p2 : ∀ {w Fs}, Goes W [] Fs w → Calls Tryz.prog 25 #[.int .i64 p.trail] w _ := fun h => trNew_spec _ _
  have hwn := fun w0 => wNew_spec w0 p hp
  have hmn := fun w0 => mNew_spec w0 p.marks (by omega) (by omega)
  simp only [Prm.enc] at hwn ⊢
  refine enter Tryz.func8 rfl (by simp only [Tryz.ntmps8, List.length_cons, List.length_nil, Nat.reduceAdd, Nat.reduceSub, List.replicate_succ, List.replicate_zero, List.cons_append, List.nil_append]; exact rfl) ?_
  repeat' (first | refine zN ?_ | ((with_reducible refine WQ.nilG ?_); intro w hg) | (refine zB ?_; clear hg; intro b w hg; refine WO.fr ?_) | (refine zW ?_; clear hg; intro w hg; refine WO.fr ?_) | (refine op_pureB hg ?_; clear hg; intro w hg c hc; cases c <;> refine WO.fr ?_))
  obtain ⟨bp, rfl⟩ : ∃ z, z = b := ⟨b, rfl⟩
  obtain ⟨bl, rfl⟩ : ∃ z, z = b := ⟨b, rfl⟩
  refine op_call (hwn w) ?_
  rintro _ w ⟨pw, fw, rfl, hW, hg2⟩
  replace hg := hg.call0 hg2
  simp only [List.cons_append, List.nil_append] at hg
  clear hg2 hwn p1
  refine ⟨_, rfl, ?_⟩
  refine WO.fr ?_
  repeat' (first | refine zN ?_ | ((with_reducible refine WQ.nilG ?_); intro w hg) | (refine zB ?_; clear hg; intro b w hg; refine WO.fr ?_) | (refine zW ?_; clear hg; intro w hg; refine WO.fr ?_) | (refine op_pureB hg ?_; clear hg; intro w hg c hc; cases c <;> refine WO.fr ?_))
  obtain ⟨bn, rfl⟩ : ∃ z, z = b := ⟨b, rfl⟩
  clear p2
  have s1 : ∀ {w : World}, (w.heap[bl]? = some (.cells [.slice am L.modes.length cm, vd, va].toArray 26 (0, 0)) ∧ w.heap[bp]? = some (.cells [.int .i64 p.bytes, .int .i64 p.trail, .int .i64 p.marks, .int .i64 p.ahead, .int .i64 p.tickets, .int .i64 p.retries, .int .i64 p.step].toArray 28 (0, 0)) ∧ w.heap[bn]? = some (.cells [.int .i64 0, .int .i64 md, .int .i64 (min (max p.trail 1) 4096), .slice none 0 0].toArray 75 (0, 0))) → w.cell? ⟨bp, 2, none⟩ = some (.int .i64 p.marks) := fun h => heap_cell h.2.1 rfl
  have t1 : ∀ {w : World}, (w.heap[bl]? = some (.cells [.slice am L.modes.length cm, vd, va].toArray 26 (0, 0)) ∧ w.heap[bp]? = some (.cells [.int .i64 p.bytes, .int .i64 p.trail, .int .i64 p.marks, .int .i64 p.ahead, .int .i64 p.tickets, .int .i64 p.retries, .int .i64 p.step].toArray 28 (0, 0)) ∧ w.heap[bn]? = some (.cells [.int .i64 0, .int .i64 md, .int .i64 (min (max p.trail 1) 4096), .slice none 0 0].toArray 75 (0, 0))) → Cells w ⟨bl, 0, none⟩ [.slice am L.modes.length cm, vd, va] := fun h => heap_cells h.1 rfl
  have t2 : ∀ {w : World}, (w.heap[bl]? = some (.cells [.slice am L.modes.length cm, vd, va].toArray 26 (0, 0)) ∧ w.heap[bp]? = some (.cells [.int .i64 p.bytes, .int .i64 p.trail, .int .i64 p.marks, .int .i64 p.ahead, .int .i64 p.tickets, .int .i64 p.retries, .int .i64 p.step].toArray 28 (0, 0)) ∧ w.heap[bn]? = some (.cells [.int .i64 0, .int .i64 md, .int .i64 (min (max p.trail 1) 4096), .slice none 0 0].toArray 75 (0, 0))) → Cells w ⟨bp, 0, none⟩ [.int .i64 p.bytes, .int .i64 p.trail, .int .i64 p.marks, .int .i64 p.ahead, .int .i64 p.tickets, .int .i64 p.retries, .int .i64 p.step] := fun h => heap_cells h.2.1 rfl
  have t3 : ∀ {w : World}, (w.heap[bl]? = some (.cells [.slice am L.modes.length cm, vd, va].toArray 26 (0, 0)) ∧ w.heap[bp]? = some (.cells [.int .i64 p.bytes, .int .i64 p.trail, .int .i64 p.marks, .int .i64 p.ahead, .int .i64 p.tickets, .int .i64 p.retries, .int .i64 p.step].toArray 28 (0, 0)) ∧ w.heap[bn]? = some (.cells [.int .i64 0, .int .i64 md, .int .i64 (min (max p.trail 1) 4096), .slice none 0 0].toArray 75 (0, 0))) → Cells w ⟨bn, 0, none⟩ [.int .i64 0, .int .i64 md, .int .i64 (min (max p.trail 1) 4096), .slice none 0 0] := fun h => heap_cells h.2.2 rfl
  refine WC.drawn (fun w => w.heap[bl]? = some (.cells [.slice am L.modes.length cm, vd, va].toArray 26 (0, 0)) ∧ w.heap[bp]? = some (.cells [.int .i64 p.bytes, .int .i64 p.trail, .int .i64 p.marks, .int .i64 p.ahead, .int .i64 p.tickets, .int .i64 p.retries, .int .i64 p.step].toArray 28 (0, 0)) ∧ w.heap[bn]? = some (.cells [.int .i64 0, .int .i64 md, .int .i64 (min (max p.trail 1) 4096), .slice none 0 0].toArray 75 (0, 0))) [] hg ?_
  clear hg
  intro w hg
  have hS : (fun w => w.heap[bl]? = some (.cells [.slice am L.modes.length cm, vd, va].toArray 26 (0, 0)) ∧ w.heap[bp]? = some (.cells [.int .i64 p.bytes, .int .i64 p.trail, .int .i64 p.marks, .int .i64 p.ahead, .int .i64 p.tickets, .int .i64 p.retries, .int .i64 p.step].toArray 28 (0, 0)) ∧ w.heap[bn]? = some (.cells [.int .i64 0, .int .i64 md, .int .i64 (min (max p.trail 1) 4096), .slice none 0 0].toArray 75 (0, 0))) w := ⟨hg.own (bl, .cells [.slice am L.modes.length cm, vd, va].toArray 26 (0, 0)) (by simp), hg.own (bp, .cells [.int .i64 p.bytes, .int .i64 p.trail, .int .i64 p.marks, .int .i64 p.ahead, .int .i64 p.tickets, .int .i64 p.retries, .int .i64 p.step].toArray 28 (0, 0)) (by simp), hg.own (bn, .cells [.int .i64 0, .int .i64 md, .int .i64 (min (max p.trail 1) 4096), .slice none 0 0].toArray 75 (0, 0)) (by simp)⟩
  refine WA.passM 2 hS ?_
  refine WA.passM 4 hS ?_
  refine WA.passM 0 hS ?_
  refine WA.passM 1 hS ?_
  refine WA.passM 3 hS ?_
  refine WA.passM 5 hS ?_
  refine WA.passM 7 hS ?_
  refine WA.only 6 ?_
  refine op_call (hmn w) ?_
  rintro _ w ⟨pm, fm, rfl, hM, hg2⟩
  replace hg := hg.call0 hg2
  simp only [List.cons_append, List.nil_append] at hg
  clear hg2 hmn hS
  refine ⟨_, rfl, ?_⟩
  refine WO.fr ?_
  have hS : (fun w => w.heap[bl]? = some (.cells [.slice am L.modes.length cm, vd, va].toArray 26 (0, 0)) ∧ w.heap[bp]? = some (.cells [.int .i64 p.bytes, .int .i64 p.trail, .int .i64 p.marks, .int .i64 p.ahead, .int .i64 p.tickets, .int .i64 p.retries, .int .i64 p.step].toArray 28 (0, 0)) ∧ w.heap[bn]? = some (.cells [.int .i64 0, .int .i64 md, .int .i64 (min (max p.trail 1) 4096), .slice none 0 0].toArray 75 (0, 0))) w := ⟨hg.own (bl, .cells [.slice am L.modes.length cm, vd, va].toArray 26 (0, 0)) (by simp), hg.own (bp, .cells [.int .i64 p.bytes, .int .i64 p.trail, .int .i64 p.marks, .int .i64 p.ahead, .int .i64 p.tickets, .int .i64 p.retries, .int .i64 p.step].toArray 28 (0, 0)) (by simp), hg.own (bn, .cells [.int .i64 0, .int .i64 md, .int .i64 (min (max p.trail 1) 4096), .slice none 0 0].toArray 75 (0, 0)) (by simp)⟩
  refine WO.nilA hS ?_
  refine WA.passM 8 hS ?_
  refine WA.only 9 ?_
  refine op_boxA hg ?_
  clear hg hS
  intro pc w hg
  refine WO.fr ?_
  have hS : (fun w => w.heap[bl]? = some (.cells [.slice am L.modes.length cm, vd, va].toArray 26 (0, 0)) ∧ w.heap[bp]? = some (.cells [.int .i64 p.bytes, .int .i64 p.trail, .int .i64 p.marks, .int .i64 p.ahead, .int .i64 p.tickets, .int .i64 p.retries, .int .i64 p.step].toArray 28 (0, 0)) ∧ w.heap[bn]? = some (.cells [.int .i64 0, .int .i64 md, .int .i64 (min (max p.trail 1) 4096), .slice none 0 0].toArray 75 (0, 0))) w := ⟨hg.own (bl, .cells [.slice am L.modes.length cm, vd, va].toArray 26 (0, 0)) (by simp), hg.own (bp, .cells [.int .i64 p.bytes, .int .i64 p.trail, .int .i64 p.marks, .int .i64 p.ahead, .int .i64 p.tickets, .int .i64 p.retries, .int .i64 p.step].toArray 28 (0, 0)) (by simp), hg.own (bn, .cells [.int .i64 0, .int .i64 md, .int .i64 (min (max p.trail 1) 4096), .slice none 0 0].toArray 75 (0, 0)) (by simp)⟩
  refine WO.nilA hS ?_
  refine WA.passM 10 hS ?_
  refine WA.passM 11 hS ?_
  refine WA.nil ?_
  clear hS s1 t1 t2 t3
  repeat' (first | refine zN ?_ | ((with_reducible refine WQ.nilG ?_); intro w hg) | (refine zB ?_; clear hg; intro b w hg; refine WO.fr ?_) | (refine zW ?_; clear hg; intro w hg; refine WO.fr ?_) | (refine op_pureB hg ?_; clear hg; intro w hg c hc; cases c <;> refine WO.fr ?_))
  have hd := TrOK.new p.trail
  exact ret (.tmp rfl (.tmp rfl .nil)) ⟨pc, ⟨pw, pm, false, 0, md, min (max p.trail 1) 4096, none, 0, 0, 0, 0, 0, 0, -1, none⟩, rfl, List.replicate p.marks.toNat Slt.none, fw, fm, [], [], ⟨hW, WOK.zero hp, by simp [WS.zero], hM, fun y hy => by
      rw [(List.mem_replicate.1 hy).2]
      exact ⟨by simp [Slt.none], ⟨_, _, _, rfl⟩, fun h => by cases h⟩, by rw [List.length_replicate]; omega, hd, by dsimp only; omega, by omega, by dsimp only; omega, none, .nil⟩, hg.newC⟩
end
end Go.Proofs.YtkdidefghbeabaaGreat
