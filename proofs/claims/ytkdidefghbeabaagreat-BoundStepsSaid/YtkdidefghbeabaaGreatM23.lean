/- The jobs' steps: rewind, setMode; which step; Steps; Begin. -/
import Derived.Test.YtkdidefghbeabaaGreatM22
namespace Go.Proofs.YtkdidefghbeabaaGreat
open Go Go.RowKit
set_option maxRecDepth 10000
set_option linter.unusedSimpArgs false
set_option linter.unusedVariables false
section
variable {W : World} {pc pj : Nat} {vm vd va : Value} {L : PLex} {p : Prm} {T : Nat} {x : CU} {s : WS} {j : JB} {fj : Frag} {Fs : List Frag} {w : World} {σ : Option SC}
set_option maxHeartbeats 4000000 in
theorem rewind_spec {B : Nat} (h9 : T + 2 ≤ 900) (hSl : SlotOK vm vd va L j.ps fj σ) (hC : Cur W pc vm vd va L p T x s (jF pj j :: fj :: Fs) w) :
    Calls Tryz.prog 54 #[.pointer (some ⟨pc, 0, none⟩), .pointer (some ⟨pj, 0, none⟩)] w (Stepped W pc pj vm vd va L p B T x s j σ Fs) := by
  obtain ⟨sl, fw, fm, fa, fB, hK, hg⟩ := hC
  simp only [cuF, jF] at hg
  have s1 : ∀ {w : World}, (w.heap[pj]? = some (.cells [.int .i64 j.kind, .int .i64 j.n, .string (str j.data), .int .i64 j.steps, .bool j.done, .int .i64 j.at', .int .i64 j.md, .int .i64 j.left, ptrO j.ps, .func (.func j.fn) #[] #[]].toArray 86 (0, 0)) ∧ w.heap[pc]? = some (.cells [vm, vd, va, .int .i64 p.bytes, .int .i64 p.trail, .int .i64 p.marks, .int .i64 p.ahead, .int .i64 p.tickets, .int .i64 p.retries, .int .i64 p.step, .pointer (some ⟨x.pw, 0, none⟩), .bool x.closed, .int .i64 x.na, .int .i64 x.nmd, .int .i64 x.dp, .slice x.sa x.sn x.sc, .pointer (some ⟨x.pm, 0, none⟩), .int .i64 x.ep, .int .i64 x.aa, .int .i64 x.amd, .int .i64 x.al, .int .i64 x.ae, ptrO x.ps].toArray 82 (0, 0))) → w.cell? ⟨pc, 16, none⟩ = some (.pointer (some ⟨x.pm, 0, none⟩)) := fun h => heap_cell h.2 rfl
  have s2 : ∀ {w : World}, (w.heap[pj]? = some (.cells [.int .i64 j.kind, .int .i64 j.n, .string (str j.data), .int .i64 j.steps, .bool j.done, .int .i64 j.at', .int .i64 j.md, .int .i64 j.left, ptrO j.ps, .func (.func j.fn) #[] #[]].toArray 86 (0, 0)) ∧ w.heap[pc]? = some (.cells [vm, vd, va, .int .i64 p.bytes, .int .i64 p.trail, .int .i64 p.marks, .int .i64 p.ahead, .int .i64 p.tickets, .int .i64 p.retries, .int .i64 p.step, .pointer (some ⟨x.pw, 0, none⟩), .bool x.closed, .int .i64 x.na, .int .i64 x.nmd, .int .i64 x.dp, .slice x.sa x.sn x.sc, .pointer (some ⟨x.pm, 0, none⟩), .int .i64 x.ep, .int .i64 x.aa, .int .i64 x.amd, .int .i64 x.al, .int .i64 x.ae, ptrO x.ps].toArray 82 (0, 0))) → w.cell? ⟨pj, 1, none⟩ = some (.int .i64 j.n) := fun h => heap_cell h.1 rfl
  refine enter Tryz.func54 rfl (by simp only [Tryz.ntmps54, List.length_cons, List.length_nil, Nat.reduceAdd, Nat.reduceSub, List.replicate_succ, List.replicate_zero, List.cons_append, List.nil_append]; exact rfl) ?_
  repeat' (first | refine zN ?_ | ((with_reducible refine WQ.nilG ?_); intro w hg) | (refine zB ?_; clear hg; intro b w hg; refine WO.fr ?_) | (refine zW ?_; clear hg; intro w hg; refine WO.fr ?_) | (refine op_pureB hg ?_; clear hg; intro w hg c hc; cases c <;> refine WO.fr ?_))
  obtain ⟨br, rfl⟩ : ∃ z, z = b := ⟨b, rfl⟩
  refine WC.cut [6, 7, 8, 9, 10, 11, 12, 13, 14, 15, 16, 17, 18, 19, 20] (fun xs w => ∃ (bt : Nat) (y1 y2 dp : Int) (a : Option Addr) (n c : Nat) (er : Int), (gt xs 0) = .pointer (some ⟨bt, 0, none⟩) ∧ (gt xs 1) = .int .i64 er ∧ (er = 0 ∨ er = 12) ∧ (er = 0 → TrOK fB dp (.slice a n c)) ∧ Goes W [] ([(br, .cells [.int .i64 0, .int .i64 0, .int .i64 0, .int .i64 0, .int .i64 0, .int .i64 0, .int .i64 0, .int .i64 0].toArray 50 (0, 0))] :: [(bt, .cells [.int .i64 y1, .int .i64 y2, .int .i64 dp, .slice a n c].toArray 75 (0, 0))] :: [(pc, .cells [vm, vd, va, .int .i64 p.bytes, .int .i64 p.trail, .int .i64 p.marks, .int .i64 p.ahead, .int .i64 p.tickets, .int .i64 p.retries, .int .i64 p.step, .pointer (some ⟨x.pw, 0, none⟩), .bool x.closed, .int .i64 x.na, .int .i64 x.nmd, .int .i64 x.dp, .slice x.sa x.sn x.sc, .pointer (some ⟨x.pm, 0, none⟩), .int .i64 x.ep, .int .i64 x.aa, .int .i64 x.amd, .int .i64 x.al, .int .i64 x.ae, ptrO x.ps].toArray 82 (0, 0))] :: fw :: fm :: fa :: fB :: [(pj, .cells [.int .i64 j.kind, .int .i64 j.n, .string (str j.data), .int .i64 j.steps, .bool j.done, .int .i64 j.at', .int .i64 j.md, .int .i64 j.left, ptrO j.ps, .func (.func j.fn) #[] #[]].toArray 86 (0, 0))] :: fj :: Fs) w) ?_ ?_
  · skip
    refine WC.drawn (fun w => w.heap[pj]? = some (.cells [.int .i64 j.kind, .int .i64 j.n, .string (str j.data), .int .i64 j.steps, .bool j.done, .int .i64 j.at', .int .i64 j.md, .int .i64 j.left, ptrO j.ps, .func (.func j.fn) #[] #[]].toArray 86 (0, 0)) ∧ w.heap[pc]? = some (.cells [vm, vd, va, .int .i64 p.bytes, .int .i64 p.trail, .int .i64 p.marks, .int .i64 p.ahead, .int .i64 p.tickets, .int .i64 p.retries, .int .i64 p.step, .pointer (some ⟨x.pw, 0, none⟩), .bool x.closed, .int .i64 x.na, .int .i64 x.nmd, .int .i64 x.dp, .slice x.sa x.sn x.sc, .pointer (some ⟨x.pm, 0, none⟩), .int .i64 x.ep, .int .i64 x.aa, .int .i64 x.amd, .int .i64 x.al, .int .i64 x.ae, ptrO x.ps].toArray 82 (0, 0))) [] hg ?_
    clear hg
    intro w hg
    have hS : (fun w => w.heap[pj]? = some (.cells [.int .i64 j.kind, .int .i64 j.n, .string (str j.data), .int .i64 j.steps, .bool j.done, .int .i64 j.at', .int .i64 j.md, .int .i64 j.left, ptrO j.ps, .func (.func j.fn) #[] #[]].toArray 86 (0, 0)) ∧ w.heap[pc]? = some (.cells [vm, vd, va, .int .i64 p.bytes, .int .i64 p.trail, .int .i64 p.marks, .int .i64 p.ahead, .int .i64 p.tickets, .int .i64 p.retries, .int .i64 p.step, .pointer (some ⟨x.pw, 0, none⟩), .bool x.closed, .int .i64 x.na, .int .i64 x.nmd, .int .i64 x.dp, .slice x.sa x.sn x.sc, .pointer (some ⟨x.pm, 0, none⟩), .int .i64 x.ep, .int .i64 x.aa, .int .i64 x.amd, .int .i64 x.al, .int .i64 x.ae, ptrO x.ps].toArray 82 (0, 0))) w := ⟨hg.own (pj, .cells [.int .i64 j.kind, .int .i64 j.n, .string (str j.data), .int .i64 j.steps, .bool j.done, .int .i64 j.at', .int .i64 j.md, .int .i64 j.left, ptrO j.ps, .func (.func j.fn) #[] #[]].toArray 86 (0, 0)) (by simp), hg.own (pc, .cells [vm, vd, va, .int .i64 p.bytes, .int .i64 p.trail, .int .i64 p.marks, .int .i64 p.ahead, .int .i64 p.tickets, .int .i64 p.retries, .int .i64 p.step, .pointer (some ⟨x.pw, 0, none⟩), .bool x.closed, .int .i64 x.na, .int .i64 x.nmd, .int .i64 x.dp, .slice x.sa x.sn x.sc, .pointer (some ⟨x.pm, 0, none⟩), .int .i64 x.ep, .int .i64 x.aa, .int .i64 x.amd, .int .i64 x.al, .int .i64 x.ae, ptrO x.ps].toArray 82 (0, 0)) (by simp)⟩
    refine WA.passM 0 hS ?_
    refine WA.passM 1 hS ?_
    refine WA.passM 2 hS ?_
    refine WA.passM 4 hS ?_
    refine WA.passM 5 hS ?_
    refine WA.passM 6 hS ?_
    refine WA.passM 7 hS ?_
    refine WA.passM 3 hS ?_
    refine WA.passM 8 hS ?_
    refine WA.two 9 13 ?_ ?_
    · refine op_call (mGet_spec j.n (by have := hK.t; omega) hK.mn hK.m hK.ms (hg.front 3).own0) ?_
      rintro _ w ⟨⟨y1, y2, dp, a, n, c, er, rfl, he, hT'⟩, hg2⟩
      replace hg := hg.call00 hg2
      clear hg2 hS
      refine ⟨_, rfl, ?_⟩
      refine WO.fr ?_
      have hS : (fun w => w.heap[pj]? = some (.cells [.int .i64 j.kind, .int .i64 j.n, .string (str j.data), .int .i64 j.steps, .bool j.done, .int .i64 j.at', .int .i64 j.md, .int .i64 j.left, ptrO j.ps, .func (.func j.fn) #[] #[]].toArray 86 (0, 0)) ∧ w.heap[pc]? = some (.cells [vm, vd, va, .int .i64 p.bytes, .int .i64 p.trail, .int .i64 p.marks, .int .i64 p.ahead, .int .i64 p.tickets, .int .i64 p.retries, .int .i64 p.step, .pointer (some ⟨x.pw, 0, none⟩), .bool x.closed, .int .i64 x.na, .int .i64 x.nmd, .int .i64 x.dp, .slice x.sa x.sn x.sc, .pointer (some ⟨x.pm, 0, none⟩), .int .i64 x.ep, .int .i64 x.aa, .int .i64 x.amd, .int .i64 x.al, .int .i64 x.ae, ptrO x.ps].toArray 82 (0, 0))) w := ⟨hg.own (pj, .cells [.int .i64 j.kind, .int .i64 j.n, .string (str j.data), .int .i64 j.steps, .bool j.done, .int .i64 j.at', .int .i64 j.md, .int .i64 j.left, ptrO j.ps, .func (.func j.fn) #[] #[]].toArray 86 (0, 0)) (by simp), hg.own (pc, .cells [vm, vd, va, .int .i64 p.bytes, .int .i64 p.trail, .int .i64 p.marks, .int .i64 p.ahead, .int .i64 p.tickets, .int .i64 p.retries, .int .i64 p.step, .pointer (some ⟨x.pw, 0, none⟩), .bool x.closed, .int .i64 x.na, .int .i64 x.nmd, .int .i64 x.dp, .slice x.sa x.sn x.sc, .pointer (some ⟨x.pm, 0, none⟩), .int .i64 x.ep, .int .i64 x.aa, .int .i64 x.amd, .int .i64 x.al, .int .i64 x.ae, ptrO x.ps].toArray 82 (0, 0)) (by simp)⟩
      refine WO.nilA hS ?_
      refine WA.passM 10 hS ?_
      refine WA.passM 11 hS ?_
      refine WA.passM 12 hS ?_
      refine WA.only 13 ?_
      refine op_alloc hg ?_
      clear hg hS
      intro bt w hg
      refine WO.fr ?_
      have hS : (fun w => w.heap[pj]? = some (.cells [.int .i64 j.kind, .int .i64 j.n, .string (str j.data), .int .i64 j.steps, .bool j.done, .int .i64 j.at', .int .i64 j.md, .int .i64 j.left, ptrO j.ps, .func (.func j.fn) #[] #[]].toArray 86 (0, 0)) ∧ w.heap[pc]? = some (.cells [vm, vd, va, .int .i64 p.bytes, .int .i64 p.trail, .int .i64 p.marks, .int .i64 p.ahead, .int .i64 p.tickets, .int .i64 p.retries, .int .i64 p.step, .pointer (some ⟨x.pw, 0, none⟩), .bool x.closed, .int .i64 x.na, .int .i64 x.nmd, .int .i64 x.dp, .slice x.sa x.sn x.sc, .pointer (some ⟨x.pm, 0, none⟩), .int .i64 x.ep, .int .i64 x.aa, .int .i64 x.amd, .int .i64 x.al, .int .i64 x.ae, ptrO x.ps].toArray 82 (0, 0))) w := ⟨hg.own (pj, .cells [.int .i64 j.kind, .int .i64 j.n, .string (str j.data), .int .i64 j.steps, .bool j.done, .int .i64 j.at', .int .i64 j.md, .int .i64 j.left, ptrO j.ps, .func (.func j.fn) #[] #[]].toArray 86 (0, 0)) (by simp), hg.own (pc, .cells [vm, vd, va, .int .i64 p.bytes, .int .i64 p.trail, .int .i64 p.marks, .int .i64 p.ahead, .int .i64 p.tickets, .int .i64 p.retries, .int .i64 p.step, .pointer (some ⟨x.pw, 0, none⟩), .bool x.closed, .int .i64 x.na, .int .i64 x.nmd, .int .i64 x.dp, .slice x.sa x.sn x.sc, .pointer (some ⟨x.pm, 0, none⟩), .int .i64 x.ep, .int .i64 x.aa, .int .i64 x.amd, .int .i64 x.al, .int .i64 x.ae, ptrO x.ps].toArray 82 (0, 0)) (by simp)⟩
      refine WO.nilA hS ?_
      refine WA.only 14 ?_
      refine op_stA hg ?_
      clear hg hS
      intro w hg
      refine WO.fr ?_
      have hS : (fun w => w.heap[pj]? = some (.cells [.int .i64 j.kind, .int .i64 j.n, .string (str j.data), .int .i64 j.steps, .bool j.done, .int .i64 j.at', .int .i64 j.md, .int .i64 j.left, ptrO j.ps, .func (.func j.fn) #[] #[]].toArray 86 (0, 0)) ∧ w.heap[pc]? = some (.cells [vm, vd, va, .int .i64 p.bytes, .int .i64 p.trail, .int .i64 p.marks, .int .i64 p.ahead, .int .i64 p.tickets, .int .i64 p.retries, .int .i64 p.step, .pointer (some ⟨x.pw, 0, none⟩), .bool x.closed, .int .i64 x.na, .int .i64 x.nmd, .int .i64 x.dp, .slice x.sa x.sn x.sc, .pointer (some ⟨x.pm, 0, none⟩), .int .i64 x.ep, .int .i64 x.aa, .int .i64 x.amd, .int .i64 x.al, .int .i64 x.ae, ptrO x.ps].toArray 82 (0, 0))) w := ⟨hg.own (pj, .cells [.int .i64 j.kind, .int .i64 j.n, .string (str j.data), .int .i64 j.steps, .bool j.done, .int .i64 j.at', .int .i64 j.md, .int .i64 j.left, ptrO j.ps, .func (.func j.fn) #[] #[]].toArray 86 (0, 0)) (by simp), hg.own (pc, .cells [vm, vd, va, .int .i64 p.bytes, .int .i64 p.trail, .int .i64 p.marks, .int .i64 p.ahead, .int .i64 p.tickets, .int .i64 p.retries, .int .i64 p.step, .pointer (some ⟨x.pw, 0, none⟩), .bool x.closed, .int .i64 x.na, .int .i64 x.nmd, .int .i64 x.dp, .slice x.sa x.sn x.sc, .pointer (some ⟨x.pm, 0, none⟩), .int .i64 x.ep, .int .i64 x.aa, .int .i64 x.amd, .int .i64 x.al, .int .i64 x.ae, ptrO x.ps].toArray 82 (0, 0)) (by simp)⟩
      refine WO.nilA hS ?_
      refine WA.passM 15 hS ?_
      refine WA.nil ?_
      with_reducible refine CutQ.mk ?_ ?_
      · simp only [setAll, List.map_cons, List.map_nil, gt, List.set_cons_succ, List.set_cons_zero]
      try simp only [List.map_cons, List.map_nil, gt]
      exact ⟨bt, y1, y2, dp, a, n, c, er, by trivial, by trivial, he, hT', (hg.front 1)⟩
    · refine op_alloc hg ?_
      clear hg hS
      intro bt w hg
      refine WO.fr ?_
      have hS : (fun w => w.heap[pj]? = some (.cells [.int .i64 j.kind, .int .i64 j.n, .string (str j.data), .int .i64 j.steps, .bool j.done, .int .i64 j.at', .int .i64 j.md, .int .i64 j.left, ptrO j.ps, .func (.func j.fn) #[] #[]].toArray 86 (0, 0)) ∧ w.heap[pc]? = some (.cells [vm, vd, va, .int .i64 p.bytes, .int .i64 p.trail, .int .i64 p.marks, .int .i64 p.ahead, .int .i64 p.tickets, .int .i64 p.retries, .int .i64 p.step, .pointer (some ⟨x.pw, 0, none⟩), .bool x.closed, .int .i64 x.na, .int .i64 x.nmd, .int .i64 x.dp, .slice x.sa x.sn x.sc, .pointer (some ⟨x.pm, 0, none⟩), .int .i64 x.ep, .int .i64 x.aa, .int .i64 x.amd, .int .i64 x.al, .int .i64 x.ae, ptrO x.ps].toArray 82 (0, 0))) w := ⟨hg.own (pj, .cells [.int .i64 j.kind, .int .i64 j.n, .string (str j.data), .int .i64 j.steps, .bool j.done, .int .i64 j.at', .int .i64 j.md, .int .i64 j.left, ptrO j.ps, .func (.func j.fn) #[] #[]].toArray 86 (0, 0)) (by simp), hg.own (pc, .cells [vm, vd, va, .int .i64 p.bytes, .int .i64 p.trail, .int .i64 p.marks, .int .i64 p.ahead, .int .i64 p.tickets, .int .i64 p.retries, .int .i64 p.step, .pointer (some ⟨x.pw, 0, none⟩), .bool x.closed, .int .i64 x.na, .int .i64 x.nmd, .int .i64 x.dp, .slice x.sa x.sn x.sc, .pointer (some ⟨x.pm, 0, none⟩), .int .i64 x.ep, .int .i64 x.aa, .int .i64 x.amd, .int .i64 x.al, .int .i64 x.ae, ptrO x.ps].toArray 82 (0, 0)) (by simp)⟩
      refine WO.nilA hS ?_
      refine WA.only 9 ?_
      refine op_call (mGet_spec j.n (by have := hK.t; omega) hK.mn hK.m hK.ms (hg.front 4).own0) ?_
      rintro _ w ⟨⟨y1, y2, dp, a, n, c, er, rfl, he, hT'⟩, hg2⟩
      replace hg := hg.call00 hg2
      clear hg2 hS
      refine ⟨_, rfl, ?_⟩
      refine WO.fr ?_
      have hS : (fun w => w.heap[pj]? = some (.cells [.int .i64 j.kind, .int .i64 j.n, .string (str j.data), .int .i64 j.steps, .bool j.done, .int .i64 j.at', .int .i64 j.md, .int .i64 j.left, ptrO j.ps, .func (.func j.fn) #[] #[]].toArray 86 (0, 0)) ∧ w.heap[pc]? = some (.cells [vm, vd, va, .int .i64 p.bytes, .int .i64 p.trail, .int .i64 p.marks, .int .i64 p.ahead, .int .i64 p.tickets, .int .i64 p.retries, .int .i64 p.step, .pointer (some ⟨x.pw, 0, none⟩), .bool x.closed, .int .i64 x.na, .int .i64 x.nmd, .int .i64 x.dp, .slice x.sa x.sn x.sc, .pointer (some ⟨x.pm, 0, none⟩), .int .i64 x.ep, .int .i64 x.aa, .int .i64 x.amd, .int .i64 x.al, .int .i64 x.ae, ptrO x.ps].toArray 82 (0, 0))) w := ⟨hg.own (pj, .cells [.int .i64 j.kind, .int .i64 j.n, .string (str j.data), .int .i64 j.steps, .bool j.done, .int .i64 j.at', .int .i64 j.md, .int .i64 j.left, ptrO j.ps, .func (.func j.fn) #[] #[]].toArray 86 (0, 0)) (by simp), hg.own (pc, .cells [vm, vd, va, .int .i64 p.bytes, .int .i64 p.trail, .int .i64 p.marks, .int .i64 p.ahead, .int .i64 p.tickets, .int .i64 p.retries, .int .i64 p.step, .pointer (some ⟨x.pw, 0, none⟩), .bool x.closed, .int .i64 x.na, .int .i64 x.nmd, .int .i64 x.dp, .slice x.sa x.sn x.sc, .pointer (some ⟨x.pm, 0, none⟩), .int .i64 x.ep, .int .i64 x.aa, .int .i64 x.amd, .int .i64 x.al, .int .i64 x.ae, ptrO x.ps].toArray 82 (0, 0)) (by simp)⟩
      refine WO.nilA hS ?_
      refine WA.passM 10 hS ?_
      refine WA.passM 11 hS ?_
      refine WA.passM 12 hS ?_
      refine WA.only 14 ?_
      refine op_stA hg ?_
      clear hg hS
      intro w hg
      refine WO.fr ?_
      have hS : (fun w => w.heap[pj]? = some (.cells [.int .i64 j.kind, .int .i64 j.n, .string (str j.data), .int .i64 j.steps, .bool j.done, .int .i64 j.at', .int .i64 j.md, .int .i64 j.left, ptrO j.ps, .func (.func j.fn) #[] #[]].toArray 86 (0, 0)) ∧ w.heap[pc]? = some (.cells [vm, vd, va, .int .i64 p.bytes, .int .i64 p.trail, .int .i64 p.marks, .int .i64 p.ahead, .int .i64 p.tickets, .int .i64 p.retries, .int .i64 p.step, .pointer (some ⟨x.pw, 0, none⟩), .bool x.closed, .int .i64 x.na, .int .i64 x.nmd, .int .i64 x.dp, .slice x.sa x.sn x.sc, .pointer (some ⟨x.pm, 0, none⟩), .int .i64 x.ep, .int .i64 x.aa, .int .i64 x.amd, .int .i64 x.al, .int .i64 x.ae, ptrO x.ps].toArray 82 (0, 0))) w := ⟨hg.own (pj, .cells [.int .i64 j.kind, .int .i64 j.n, .string (str j.data), .int .i64 j.steps, .bool j.done, .int .i64 j.at', .int .i64 j.md, .int .i64 j.left, ptrO j.ps, .func (.func j.fn) #[] #[]].toArray 86 (0, 0)) (by simp), hg.own (pc, .cells [vm, vd, va, .int .i64 p.bytes, .int .i64 p.trail, .int .i64 p.marks, .int .i64 p.ahead, .int .i64 p.tickets, .int .i64 p.retries, .int .i64 p.step, .pointer (some ⟨x.pw, 0, none⟩), .bool x.closed, .int .i64 x.na, .int .i64 x.nmd, .int .i64 x.dp, .slice x.sa x.sn x.sc, .pointer (some ⟨x.pm, 0, none⟩), .int .i64 x.ep, .int .i64 x.aa, .int .i64 x.amd, .int .i64 x.al, .int .i64 x.ae, ptrO x.ps].toArray 82 (0, 0)) (by simp)⟩
      refine WO.nilA hS ?_
      refine WA.passM 15 hS ?_
      refine WA.nil ?_
      with_reducible refine CutQ.mk ?_ ?_
      · simp only [setAll, List.map_cons, List.map_nil, gt, List.set_cons_succ, List.set_cons_zero]
      try simp only [List.map_cons, List.map_nil, gt]
      exact ⟨bt, y1, y2, dp, a, n, c, er, by trivial, by trivial, he, hT', (hg.front 1)⟩
  clear hg s1 s2
  intro xs w hlen hI
  replace hlen := len_cons hlen
  obtain ⟨x6, xs, rfl, hlen⟩ := hlen
  replace hlen := len_cons hlen
  obtain ⟨x7, xs, rfl, hlen⟩ := hlen
  replace hlen := len_cons hlen
  obtain ⟨x8, xs, rfl, hlen⟩ := hlen
  replace hlen := len_cons hlen
  obtain ⟨x9, xs, rfl, hlen⟩ := hlen
  replace hlen := len_cons hlen
  obtain ⟨x10, xs, rfl, hlen⟩ := hlen
  replace hlen := len_cons hlen
  obtain ⟨x11, xs, rfl, hlen⟩ := hlen
  replace hlen := len_cons hlen
  obtain ⟨x12, xs, rfl, hlen⟩ := hlen
  replace hlen := len_cons hlen
  obtain ⟨x13, xs, rfl, hlen⟩ := hlen
  replace hlen := len_cons hlen
  obtain ⟨x14, xs, rfl, hlen⟩ := hlen
  replace hlen := len_cons hlen
  obtain ⟨x15, xs, rfl, hlen⟩ := hlen
  replace hlen := len_cons hlen
  obtain ⟨x16, xs, rfl, hlen⟩ := hlen
  replace hlen := len_cons hlen
  obtain ⟨x17, xs, rfl, hlen⟩ := hlen
  replace hlen := len_cons hlen
  obtain ⟨x18, xs, rfl, hlen⟩ := hlen
  replace hlen := len_cons hlen
  obtain ⟨x19, xs, rfl, hlen⟩ := hlen
  replace hlen := len_cons hlen
  obtain ⟨x20, xs, rfl, hlen⟩ := hlen
  replace hlen := len_nil hlen
  subst hlen
  refine QX.frame (by simp only [setAll, List.set_cons_succ, List.set_cons_zero]; exact rfl) ?_
  try simp only [gt] at hI
  obtain ⟨bt, y1, y2, dp, a, n, c, er, rfl, rfl, he, hT', hg⟩ := hI
  rcases he with rfl | rfl
  rotate_left
  · have p1 : ∀ {w' Fs}, Goes W [] Fs w' → Calls Tryz.prog 31 #[.int .i64 12] w' _ := fun h => answer_spec _ 12
    simp only [resV, Tok.none] at p1
    repeat' (first | refine zN ?_ | ((with_reducible refine WQ.nilG ?_); intro w hg) | (refine zB ?_; clear hg; intro b w hg; refine WO.fr ?_) | (refine zW ?_; clear hg; intro w hg; refine WO.fr ?_) | (refine op_pureB hg ?_; clear hg; intro w hg c hc; cases c <;> refine WO.fr ?_))
    exact ret (.cells rfl (by first | with_reducible assumption | ((with_reducible apply Cells.ldn); (first | with_reducible assumption | ((with_reducible apply hg.cells0); with_reducible assumption) | with_reducible exact r1 hg | with_reducible exact r2 hg | with_reducible exact r3 hg | with_reducible exact r4 hg | with_reducible exact r5 hg | with_reducible exact t1 hs | with_reducible exact t2 hs | with_reducible exact t3 hs | with_reducible exact t4 hs); exact rfl) | ((with_reducible apply CellsAt.ldn (hg := hg)); (repeat (first | ((with_reducible apply CellsAt.whole); exact rfl) | ((with_reducible apply CellsAt.here) <;> first | with_reducible assumption | (simp only [List.drop_zero, List.drop_succ_cons, List.take_succ_cons, List.take_zero]; exact rfl) | exact rfl) | with_reducible apply CellsAt.more | with_reducible apply CellsAt.next)); done)) (.tmp rfl .nil)) ⟨12, 0, Tok.none, true, j, fj, σ, s, x, T, rfl, hSl, rfl, by omega, fun h => (by cases h), sl, fw, fm, fa, fB, hK, hg.drop0.drop0⟩
  · have p1 : ∀ {w' Fs}, Goes W [] Fs w' → Calls Tryz.prog 31 #[.int .i64 0] w' _ := fun h => answer_spec _ 0
    simp only [resV, Tok.none] at p1
    repeat' (first | refine zN ?_ | ((with_reducible refine WQ.nilG ?_); intro w hg) | (refine zB ?_; clear hg; intro b w hg; refine WO.fr ?_) | (refine zW ?_; clear hg; intro w hg; refine WO.fr ?_) | (refine op_pureB hg ?_; clear hg; intro w hg c hc; cases c <;> refine WO.fr ?_))
    refine op_call (changed_spec (x := { x with na := y1, nmd := y2, dp := dp, sa := a, sn := n, sc := c }) (by omega) ⟨sl, fw, fm, fa, fB, ⟨hK.w, hK.k, hK.al, hK.m, hK.ms, hK.mn, hT' rfl, hK.e, hK.t, hK.l, hK.a⟩, (((((((((hg.front 1).front 1).front 8).front 8).front 8).front 8).front 8).front 8).front 8)⟩) ?_
    clear hg hK
    rintro _ w ⟨s2, ⟨v, rfl⟩, hs1, hs2, sl, fw, fm, fa, fB, hK, hg⟩
    replace hg := (((((((((hg.front 6).front 6).front 6).front 6).front 6).front 6).front 6).front 8).front 8)
    simp only [pull, pullIn, cuF, jF] at hg
    refine ⟨_, rfl, ?_⟩
    refine WO.fr ?_
    repeat' (first | refine zN ?_ | ((with_reducible refine WQ.nilG ?_); intro w hg) | (refine zB ?_; clear hg; intro b w hg; refine WO.fr ?_) | (refine zW ?_; clear hg; intro w hg; refine WO.fr ?_) | (refine op_pureB hg ?_; clear hg; intro w hg c hc; cases c <;> refine WO.fr ?_))
    exact ret (.cells rfl (by first | with_reducible assumption | ((with_reducible apply Cells.ldn); (first | with_reducible assumption | ((with_reducible apply hg.cells0); with_reducible assumption) | with_reducible exact r1 hg | with_reducible exact r2 hg | with_reducible exact r3 hg | with_reducible exact r4 hg | with_reducible exact r5 hg | with_reducible exact t1 hs | with_reducible exact t2 hs | with_reducible exact t3 hs | with_reducible exact t4 hs); exact rfl) | ((with_reducible apply CellsAt.ldn (hg := hg)); (repeat (first | ((with_reducible apply CellsAt.whole); exact rfl) | ((with_reducible apply CellsAt.here) <;> first | with_reducible assumption | (simp only [List.drop_zero, List.drop_succ_cons, List.take_succ_cons, List.take_zero]; exact rfl) | exact rfl) | with_reducible apply CellsAt.more | with_reducible apply CellsAt.next)); done)) (.tmp rfl .nil)) ⟨0, 0, Tok.none, true, j, fj, σ, s2, _, T + 1, rfl, hSl, rfl, by omega, fun h => (by cases h), sl, fw, fm, fa, fB, hK, hg.drop0.drop0⟩
set_option maxHeartbeats 4000000 in
theorem setMode_spec {B : Nat} (h9 : T + 2 ≤ 900) (hL : LexAt W [vm, vd, va] L) (hSl : SlotOK vm vd va L j.ps fj σ) (hC : Cur W pc vm vd va L p T x s (jF pj j :: fj :: Fs) w) :
    Calls Tryz.prog 56 #[.pointer (some ⟨pc, 0, none⟩), .pointer (some ⟨pj, 0, none⟩)] w (Stepped W pc pj vm vd va L p B T x s j σ Fs) := by
  obtain ⟨sl, fw, fm, fa, fB, hK, hg⟩ := hC
  obtain ⟨am, cm, hvm⟩ : ∃ am cm, vm = .slice am L.modes.length cm := by
    obtain ⟨_, _, _, he, ⟨am, cm, rfl, _⟩, _, _⟩ := hL
    simp only [List.cons.injEq] at he
    exact ⟨am, cm, he.1⟩
  have p1 : ∀ {w' Fs}, Goes W [] Fs w' → Calls Tryz.prog 31 #[.int .i64 11] w' _ := fun h => answer_spec _ 11
  simp only [resV, Tok.none] at p1
  simp only [cuF, jF] at hg
  have s1 : ∀ {w : World}, (w.heap[pj]? = some (.cells [.int .i64 j.kind, .int .i64 j.n, .string (str j.data), .int .i64 j.steps, .bool j.done, .int .i64 j.at', .int .i64 j.md, .int .i64 j.left, ptrO j.ps, .func (.func j.fn) #[] #[]].toArray 86 (0, 0)) ∧ w.heap[pc]? = some (.cells [vm, vd, va, .int .i64 p.bytes, .int .i64 p.trail, .int .i64 p.marks, .int .i64 p.ahead, .int .i64 p.tickets, .int .i64 p.retries, .int .i64 p.step, .pointer (some ⟨x.pw, 0, none⟩), .bool x.closed, .int .i64 x.na, .int .i64 x.nmd, .int .i64 x.dp, .slice x.sa x.sn x.sc, .pointer (some ⟨x.pm, 0, none⟩), .int .i64 x.ep, .int .i64 x.aa, .int .i64 x.amd, .int .i64 x.al, .int .i64 x.ae, ptrO x.ps].toArray 82 (0, 0))) → w.cell? ⟨pj, 1, none⟩ = some (.int .i64 j.n) := fun h => heap_cell h.1 rfl
  have s2 : ∀ {w : World}, (w.heap[pj]? = some (.cells [.int .i64 j.kind, .int .i64 j.n, .string (str j.data), .int .i64 j.steps, .bool j.done, .int .i64 j.at', .int .i64 j.md, .int .i64 j.left, ptrO j.ps, .func (.func j.fn) #[] #[]].toArray 86 (0, 0)) ∧ w.heap[pc]? = some (.cells [vm, vd, va, .int .i64 p.bytes, .int .i64 p.trail, .int .i64 p.marks, .int .i64 p.ahead, .int .i64 p.tickets, .int .i64 p.retries, .int .i64 p.step, .pointer (some ⟨x.pw, 0, none⟩), .bool x.closed, .int .i64 x.na, .int .i64 x.nmd, .int .i64 x.dp, .slice x.sa x.sn x.sc, .pointer (some ⟨x.pm, 0, none⟩), .int .i64 x.ep, .int .i64 x.aa, .int .i64 x.amd, .int .i64 x.al, .int .i64 x.ae, ptrO x.ps].toArray 82 (0, 0))) → w.cell? ⟨pc, 0, none⟩ = some (.slice am L.modes.length cm) := fun h => by rw [← hvm]; exact heap_cell h.2 rfl
  have hend : ∀ {w : World} {f1 : Frag}, Goes W [] (f1 :: cuF pc vm vd va p x :: fw :: fm :: fa :: fB :: jF pj j :: fj :: Fs) w → Stepped W pc pj vm vd va L p B T x s j σ Fs (.returned (.tuple #[resV 11 0 Tok.none, .bool true])) w := fun hg => ⟨11, 0, Tok.none, true, j, fj, σ, s, x, T, rfl, hSl, rfl, by omega, fun h => (by cases h), sl, fw, fm, fa, fB, hK, hg.drop0⟩
  by_cases h1 : j.n < 0
  · refine enter Tryz.func56 rfl (by simp only [Tryz.ntmps56, List.length_cons, List.length_nil, Nat.reduceAdd, Nat.reduceSub, List.replicate_succ, List.replicate_zero, List.cons_append, List.nil_append]; exact rfl) ?_
    repeat' (first | refine zN ?_ | ((with_reducible refine WQ.nilG ?_); intro w hg) | (refine zB ?_; clear hg; intro b w hg; refine WO.fr ?_) | (refine zW ?_; clear hg; intro w hg; refine WO.fr ?_) | (refine op_pureB hg ?_; clear hg; intro w hg c hc; cases c <;> refine WO.fr ?_))
    refine WC.drawn (fun w => w.heap[pj]? = some (.cells [.int .i64 j.kind, .int .i64 j.n, .string (str j.data), .int .i64 j.steps, .bool j.done, .int .i64 j.at', .int .i64 j.md, .int .i64 j.left, ptrO j.ps, .func (.func j.fn) #[] #[]].toArray 86 (0, 0)) ∧ w.heap[pc]? = some (.cells [vm, vd, va, .int .i64 p.bytes, .int .i64 p.trail, .int .i64 p.marks, .int .i64 p.ahead, .int .i64 p.tickets, .int .i64 p.retries, .int .i64 p.step, .pointer (some ⟨x.pw, 0, none⟩), .bool x.closed, .int .i64 x.na, .int .i64 x.nmd, .int .i64 x.dp, .slice x.sa x.sn x.sc, .pointer (some ⟨x.pm, 0, none⟩), .int .i64 x.ep, .int .i64 x.aa, .int .i64 x.amd, .int .i64 x.al, .int .i64 x.ae, ptrO x.ps].toArray 82 (0, 0))) [] hg ?_
    clear hg
    intro w hg
    have hS : (fun w => w.heap[pj]? = some (.cells [.int .i64 j.kind, .int .i64 j.n, .string (str j.data), .int .i64 j.steps, .bool j.done, .int .i64 j.at', .int .i64 j.md, .int .i64 j.left, ptrO j.ps, .func (.func j.fn) #[] #[]].toArray 86 (0, 0)) ∧ w.heap[pc]? = some (.cells [vm, vd, va, .int .i64 p.bytes, .int .i64 p.trail, .int .i64 p.marks, .int .i64 p.ahead, .int .i64 p.tickets, .int .i64 p.retries, .int .i64 p.step, .pointer (some ⟨x.pw, 0, none⟩), .bool x.closed, .int .i64 x.na, .int .i64 x.nmd, .int .i64 x.dp, .slice x.sa x.sn x.sc, .pointer (some ⟨x.pm, 0, none⟩), .int .i64 x.ep, .int .i64 x.aa, .int .i64 x.amd, .int .i64 x.al, .int .i64 x.ae, ptrO x.ps].toArray 82 (0, 0))) w := ⟨hg.own (pj, .cells [.int .i64 j.kind, .int .i64 j.n, .string (str j.data), .int .i64 j.steps, .bool j.done, .int .i64 j.at', .int .i64 j.md, .int .i64 j.left, ptrO j.ps, .func (.func j.fn) #[] #[]].toArray 86 (0, 0)) (by simp), hg.own (pc, .cells [vm, vd, va, .int .i64 p.bytes, .int .i64 p.trail, .int .i64 p.marks, .int .i64 p.ahead, .int .i64 p.tickets, .int .i64 p.retries, .int .i64 p.step, .pointer (some ⟨x.pw, 0, none⟩), .bool x.closed, .int .i64 x.na, .int .i64 x.nmd, .int .i64 x.dp, .slice x.sa x.sn x.sc, .pointer (some ⟨x.pm, 0, none⟩), .int .i64 x.ep, .int .i64 x.aa, .int .i64 x.amd, .int .i64 x.al, .int .i64 x.ae, ptrO x.ps].toArray 82 (0, 0)) (by simp)⟩
    refine WA.passM 0 hS ?_
    refine WA.passM 1 hS ?_
    refine WA.passM 2 hS ?_
    refine WA.passM 3 hS ?_
    refine WA.passM 4 hS ?_
    refine WA.passM 5 hS ?_
    refine WA.passM 6 hS ?_
    first | refine WA.passG 7 hS ?_ | refine WA.passN 7 hS ?_
    first | refine WA.passG 8 hS ?_ | refine WA.passN 8 hS ?_
    first | refine WA.passG 9 hS ?_ | refine WA.passN 9 hS ?_
    first | refine WA.passG 10 hS ?_ | refine WA.passN 10 hS ?_
    first | refine WA.passG 12 hS ?_ | refine WA.passN 12 hS ?_
    first | refine WA.passG 13 hS ?_ | refine WA.passN 13 hS ?_
    first | refine WA.passG 14 hS ?_ | refine WA.passN 14 hS ?_
    first | refine WA.passG 15 hS ?_ | refine WA.passN 15 hS ?_
    first | refine WA.passG 11 hS ?_ | refine WA.passN 11 hS ?_
    first | refine WA.passG 16 hS ?_ | refine WA.passN 16 hS ?_
    first | refine WA.passG 17 hS ?_ | refine WA.passN 17 hS ?_
    first | refine WA.passG 18 hS ?_ | refine WA.passN 18 hS ?_
    refine WA.passM 19 hS ?_
    refine WA.nil ?_
    clear hS s1 s2
    repeat' (first | refine zN ?_ | ((with_reducible refine WQ.nilG ?_); intro w hg) | (refine zB ?_; clear hg; intro b w hg; refine WO.fr ?_) | (refine zW ?_; clear hg; intro w hg; refine WO.fr ?_) | (refine op_pureB hg ?_; clear hg; intro w hg c hc; cases c <;> refine WO.fr ?_))
    exact ret (.cells rfl (by first | with_reducible assumption | ((with_reducible apply Cells.ldn); (first | with_reducible assumption | ((with_reducible apply hg.cells0); with_reducible assumption) | with_reducible exact r1 hg | with_reducible exact r2 hg | with_reducible exact r3 hg | with_reducible exact r4 hg | with_reducible exact r5 hg | with_reducible exact t1 hs | with_reducible exact t2 hs | with_reducible exact t3 hs | with_reducible exact t4 hs); exact rfl) | ((with_reducible apply CellsAt.ldn (hg := hg)); (repeat (first | ((with_reducible apply CellsAt.whole); exact rfl) | ((with_reducible apply CellsAt.here) <;> first | with_reducible assumption | (simp only [List.drop_zero, List.drop_succ_cons, List.take_succ_cons, List.take_zero]; exact rfl) | exact rfl) | with_reducible apply CellsAt.more | with_reducible apply CellsAt.next)); done)) (.tmp rfl .nil)) (hend hg)
  by_cases h2 : (L.modes.length : Int) ≤ j.n
  · refine enter Tryz.func56 rfl (by simp only [Tryz.ntmps56, List.length_cons, List.length_nil, Nat.reduceAdd, Nat.reduceSub, List.replicate_succ, List.replicate_zero, List.cons_append, List.nil_append]; exact rfl) ?_
    repeat' (first | refine zN ?_ | ((with_reducible refine WQ.nilG ?_); intro w hg) | (refine zB ?_; clear hg; intro b w hg; refine WO.fr ?_) | (refine zW ?_; clear hg; intro w hg; refine WO.fr ?_) | (refine op_pureB hg ?_; clear hg; intro w hg c hc; cases c <;> refine WO.fr ?_))
    refine WC.drawn (fun w => w.heap[pj]? = some (.cells [.int .i64 j.kind, .int .i64 j.n, .string (str j.data), .int .i64 j.steps, .bool j.done, .int .i64 j.at', .int .i64 j.md, .int .i64 j.left, ptrO j.ps, .func (.func j.fn) #[] #[]].toArray 86 (0, 0)) ∧ w.heap[pc]? = some (.cells [vm, vd, va, .int .i64 p.bytes, .int .i64 p.trail, .int .i64 p.marks, .int .i64 p.ahead, .int .i64 p.tickets, .int .i64 p.retries, .int .i64 p.step, .pointer (some ⟨x.pw, 0, none⟩), .bool x.closed, .int .i64 x.na, .int .i64 x.nmd, .int .i64 x.dp, .slice x.sa x.sn x.sc, .pointer (some ⟨x.pm, 0, none⟩), .int .i64 x.ep, .int .i64 x.aa, .int .i64 x.amd, .int .i64 x.al, .int .i64 x.ae, ptrO x.ps].toArray 82 (0, 0))) [] hg ?_
    clear hg
    intro w hg
    have hS : (fun w => w.heap[pj]? = some (.cells [.int .i64 j.kind, .int .i64 j.n, .string (str j.data), .int .i64 j.steps, .bool j.done, .int .i64 j.at', .int .i64 j.md, .int .i64 j.left, ptrO j.ps, .func (.func j.fn) #[] #[]].toArray 86 (0, 0)) ∧ w.heap[pc]? = some (.cells [vm, vd, va, .int .i64 p.bytes, .int .i64 p.trail, .int .i64 p.marks, .int .i64 p.ahead, .int .i64 p.tickets, .int .i64 p.retries, .int .i64 p.step, .pointer (some ⟨x.pw, 0, none⟩), .bool x.closed, .int .i64 x.na, .int .i64 x.nmd, .int .i64 x.dp, .slice x.sa x.sn x.sc, .pointer (some ⟨x.pm, 0, none⟩), .int .i64 x.ep, .int .i64 x.aa, .int .i64 x.amd, .int .i64 x.al, .int .i64 x.ae, ptrO x.ps].toArray 82 (0, 0))) w := ⟨hg.own (pj, .cells [.int .i64 j.kind, .int .i64 j.n, .string (str j.data), .int .i64 j.steps, .bool j.done, .int .i64 j.at', .int .i64 j.md, .int .i64 j.left, ptrO j.ps, .func (.func j.fn) #[] #[]].toArray 86 (0, 0)) (by simp), hg.own (pc, .cells [vm, vd, va, .int .i64 p.bytes, .int .i64 p.trail, .int .i64 p.marks, .int .i64 p.ahead, .int .i64 p.tickets, .int .i64 p.retries, .int .i64 p.step, .pointer (some ⟨x.pw, 0, none⟩), .bool x.closed, .int .i64 x.na, .int .i64 x.nmd, .int .i64 x.dp, .slice x.sa x.sn x.sc, .pointer (some ⟨x.pm, 0, none⟩), .int .i64 x.ep, .int .i64 x.aa, .int .i64 x.amd, .int .i64 x.al, .int .i64 x.ae, ptrO x.ps].toArray 82 (0, 0)) (by simp)⟩
    refine WA.passM 0 hS ?_
    refine WA.passM 1 hS ?_
    refine WA.passM 2 hS ?_
    refine WA.passM 3 hS ?_
    refine WA.passM 4 hS ?_
    refine WA.passM 5 hS ?_
    refine WA.passM 6 hS ?_
    first | refine WA.passG 7 hS ?_ | refine WA.passN 7 hS ?_
    first | refine WA.passG 8 hS ?_ | refine WA.passN 8 hS ?_
    first | refine WA.passG 9 hS ?_ | refine WA.passN 9 hS ?_
    first | refine WA.passG 10 hS ?_ | refine WA.passN 10 hS ?_
    first | refine WA.passG 12 hS ?_ | refine WA.passN 12 hS ?_
    first | refine WA.passG 13 hS ?_ | refine WA.passN 13 hS ?_
    first | refine WA.passG 14 hS ?_ | refine WA.passN 14 hS ?_
    first | refine WA.passG 15 hS ?_ | refine WA.passN 15 hS ?_
    first | refine WA.passG 11 hS ?_ | refine WA.passN 11 hS ?_
    first | refine WA.passG 16 hS ?_ | refine WA.passN 16 hS ?_
    first | refine WA.passG 17 hS ?_ | refine WA.passN 17 hS ?_
    first | refine WA.passG 18 hS ?_ | refine WA.passN 18 hS ?_
    refine WA.passM 19 hS ?_
    refine WA.nil ?_
    clear hS s1 s2
    repeat' (first | refine zN ?_ | ((with_reducible refine WQ.nilG ?_); intro w hg) | (refine zB ?_; clear hg; intro b w hg; refine WO.fr ?_) | (refine zW ?_; clear hg; intro w hg; refine WO.fr ?_) | (refine op_pureB hg ?_; clear hg; intro w hg c hc; cases c <;> refine WO.fr ?_))
    exact ret (.cells rfl (by first | with_reducible assumption | ((with_reducible apply Cells.ldn); (first | with_reducible assumption | ((with_reducible apply hg.cells0); with_reducible assumption) | with_reducible exact r1 hg | with_reducible exact r2 hg | with_reducible exact r3 hg | with_reducible exact r4 hg | with_reducible exact r5 hg | with_reducible exact t1 hs | with_reducible exact t2 hs | with_reducible exact t3 hs | with_reducible exact t4 hs); exact rfl) | ((with_reducible apply CellsAt.ldn (hg := hg)); (repeat (first | ((with_reducible apply CellsAt.whole); exact rfl) | ((with_reducible apply CellsAt.here) <;> first | with_reducible assumption | (simp only [List.drop_zero, List.drop_succ_cons, List.take_succ_cons, List.take_zero]; exact rfl) | exact rfl) | with_reducible apply CellsAt.more | with_reducible apply CellsAt.next)); done)) (.tmp rfl .nil)) (hend hg)
  clear hend
  refine enter Tryz.func56 rfl (by simp only [Tryz.ntmps56, List.length_cons, List.length_nil, Nat.reduceAdd, Nat.reduceSub, List.replicate_succ, List.replicate_zero, List.cons_append, List.nil_append]; exact rfl) ?_
  repeat' (first | refine zN ?_ | ((with_reducible refine WQ.nilG ?_); intro w hg) | (refine zB ?_; clear hg; intro b w hg; refine WO.fr ?_) | (refine zW ?_; clear hg; intro w hg; refine WO.fr ?_) | (refine op_pureB hg ?_; clear hg; intro w hg c hc; cases c <;> refine WO.fr ?_))
  refine WC.drawn (fun w => w.heap[pj]? = some (.cells [.int .i64 j.kind, .int .i64 j.n, .string (str j.data), .int .i64 j.steps, .bool j.done, .int .i64 j.at', .int .i64 j.md, .int .i64 j.left, ptrO j.ps, .func (.func j.fn) #[] #[]].toArray 86 (0, 0)) ∧ w.heap[pc]? = some (.cells [vm, vd, va, .int .i64 p.bytes, .int .i64 p.trail, .int .i64 p.marks, .int .i64 p.ahead, .int .i64 p.tickets, .int .i64 p.retries, .int .i64 p.step, .pointer (some ⟨x.pw, 0, none⟩), .bool x.closed, .int .i64 x.na, .int .i64 x.nmd, .int .i64 x.dp, .slice x.sa x.sn x.sc, .pointer (some ⟨x.pm, 0, none⟩), .int .i64 x.ep, .int .i64 x.aa, .int .i64 x.amd, .int .i64 x.al, .int .i64 x.ae, ptrO x.ps].toArray 82 (0, 0))) [] hg ?_
  clear hg
  intro w hg
  have hS : (fun w => w.heap[pj]? = some (.cells [.int .i64 j.kind, .int .i64 j.n, .string (str j.data), .int .i64 j.steps, .bool j.done, .int .i64 j.at', .int .i64 j.md, .int .i64 j.left, ptrO j.ps, .func (.func j.fn) #[] #[]].toArray 86 (0, 0)) ∧ w.heap[pc]? = some (.cells [vm, vd, va, .int .i64 p.bytes, .int .i64 p.trail, .int .i64 p.marks, .int .i64 p.ahead, .int .i64 p.tickets, .int .i64 p.retries, .int .i64 p.step, .pointer (some ⟨x.pw, 0, none⟩), .bool x.closed, .int .i64 x.na, .int .i64 x.nmd, .int .i64 x.dp, .slice x.sa x.sn x.sc, .pointer (some ⟨x.pm, 0, none⟩), .int .i64 x.ep, .int .i64 x.aa, .int .i64 x.amd, .int .i64 x.al, .int .i64 x.ae, ptrO x.ps].toArray 82 (0, 0))) w := ⟨hg.own (pj, .cells [.int .i64 j.kind, .int .i64 j.n, .string (str j.data), .int .i64 j.steps, .bool j.done, .int .i64 j.at', .int .i64 j.md, .int .i64 j.left, ptrO j.ps, .func (.func j.fn) #[] #[]].toArray 86 (0, 0)) (by simp), hg.own (pc, .cells [vm, vd, va, .int .i64 p.bytes, .int .i64 p.trail, .int .i64 p.marks, .int .i64 p.ahead, .int .i64 p.tickets, .int .i64 p.retries, .int .i64 p.step, .pointer (some ⟨x.pw, 0, none⟩), .bool x.closed, .int .i64 x.na, .int .i64 x.nmd, .int .i64 x.dp, .slice x.sa x.sn x.sc, .pointer (some ⟨x.pm, 0, none⟩), .int .i64 x.ep, .int .i64 x.aa, .int .i64 x.amd, .int .i64 x.al, .int .i64 x.ae, ptrO x.ps].toArray 82 (0, 0)) (by simp)⟩
  refine WA.passM 0 hS ?_
  refine WA.passM 1 hS ?_
  refine WA.passM 2 hS ?_
  refine WA.passM 3 hS ?_
  refine WA.passM 4 hS ?_
  refine WA.passM 5 hS ?_
  refine WA.passM 6 hS ?_
  first | refine WA.passG 7 hS ?_ | refine WA.passN 7 hS ?_
  first | refine WA.passG 8 hS ?_ | refine WA.passN 8 hS ?_
  first | refine WA.passG 9 hS ?_ | refine WA.passN 9 hS ?_
  first | refine WA.passG 10 hS ?_ | refine WA.passN 10 hS ?_
  first | refine WA.passG 12 hS ?_ | refine WA.passN 12 hS ?_
  first | refine WA.passG 13 hS ?_ | refine WA.passN 13 hS ?_
  first | refine WA.passG 14 hS ?_ | refine WA.passN 14 hS ?_
  first | refine WA.passG 15 hS ?_ | refine WA.passN 15 hS ?_
  first | refine WA.passG 11 hS ?_ | refine WA.passN 11 hS ?_
  first | refine WA.passG 16 hS ?_ | refine WA.passN 16 hS ?_
  first | refine WA.passG 17 hS ?_ | refine WA.passN 17 hS ?_
  first | refine WA.passG 18 hS ?_ | refine WA.passN 18 hS ?_
  refine WA.passM 19 hS ?_
  refine WA.nil ?_
  clear hS s1 s2 p1
  repeat' (first | refine zN ?_ | ((with_reducible refine WQ.nilG ?_); intro w hg) | (refine zB ?_; clear hg; intro b w hg; refine WO.fr ?_) | (refine zW ?_; clear hg; intro w hg; refine WO.fr ?_) | (refine op_pureB hg ?_; clear hg; intro w hg c hc; cases c <;> refine WO.fr ?_))
  refine op_call (changed_spec (x := { x with nmd := j.n }) (by omega) ⟨sl, fw, fm, fa, fB, ⟨hK.w, hK.k, hK.al, hK.m, hK.ms, hK.mn, hK.b, hK.e, hK.t, hK.l, hK.a⟩, (((((((hg.front 7).front 7).front 7).front 7).front 7).front 7).front 7)⟩) ?_
  clear hg hK
  rintro _ w ⟨s2, ⟨v, rfl⟩, hs1, hs2, sl, fw, fm, fa, fB, hK, hg⟩
  replace hg := ((((((((hg.front 6).front 6).front 6).front 6).front 6).front 6).front 6).front 7)
  simp only [pull, pullIn, cuF, jF] at hg
  refine ⟨_, rfl, ?_⟩
  refine WO.fr ?_
  repeat' (first | refine zN ?_ | ((with_reducible refine WQ.nilG ?_); intro w hg) | (refine zB ?_; clear hg; intro b w hg; refine WO.fr ?_) | (refine zW ?_; clear hg; intro w hg; refine WO.fr ?_) | (refine op_pureB hg ?_; clear hg; intro w hg c hc; cases c <;> refine WO.fr ?_))
  exact ret (.cells rfl (by first | with_reducible assumption | ((with_reducible apply Cells.ldn); (first | with_reducible assumption | ((with_reducible apply hg.cells0); with_reducible assumption) | with_reducible exact r1 hg | with_reducible exact r2 hg | with_reducible exact r3 hg | with_reducible exact r4 hg | with_reducible exact r5 hg | with_reducible exact t1 hs | with_reducible exact t2 hs | with_reducible exact t3 hs | with_reducible exact t4 hs); exact rfl) | ((with_reducible apply CellsAt.ldn (hg := hg)); (repeat (first | ((with_reducible apply CellsAt.whole); exact rfl) | ((with_reducible apply CellsAt.here) <;> first | with_reducible assumption | (simp only [List.drop_zero, List.drop_succ_cons, List.take_succ_cons, List.take_zero]; exact rfl) | exact rfl) | with_reducible apply CellsAt.more | with_reducible apply CellsAt.next)); done)) (.tmp rfl .nil)) ⟨0, 0, Tok.none, true, j, fj, σ, s2, _, T + 1, rfl, hSl, rfl, by omega, fun h => (by cases h), sl, fw, fm, fa, fB, hK, hg.drop0⟩
end
/-- Which function does an operation's steps. -/
def stepF (k : Int) : FuncId := if k = 1 then 48 else if k = 2 then 49 else if k = 3 then 50 else if k = 4 then 51 else if k = 5 then 52 else if k = 6 then 53 else if k = 7 then 54 else if k = 8 then 55 else if k = 9 then 56 else 57
set_option maxHeartbeats 4000000 in
theorem steps_spec (w0 : World) (k : Int) : Calls Tryz.prog 27 #[.int .i64 k] w0 fun e w' => e = .returned (.func (.func (stepF k)) #[] #[]) ∧ Goes w0 [] [] w' := by
  have hg := Goes.refl w0
  unfold stepF
  by_cases h1 : k = 1
  · subst h1
    refine enter Tryz.func27 rfl (by simp only [Tryz.ntmps27, List.length_cons, List.length_nil, Nat.reduceAdd, Nat.reduceSub, List.replicate_succ, List.replicate_zero, List.cons_append, List.nil_append]; exact rfl) ?_
    repeat' (first | refine zN ?_ | (refine WC.quietG hg ?_; clear hg) | ((with_reducible refine WQ.nilG ?_); intro w hg) | (refine zB ?_; clear hg; intro b w hg; refine WO.fr ?_) | (refine zW ?_; clear hg; intro w hg; refine WO.fr ?_) | (refine op_pureB hg ?_; clear hg; intro w hg c hc; cases c <;> refine WO.fr ?_))
    exact ret1 rfl ⟨rfl, hg.drop⟩
  rw [if_neg h1]
  by_cases h2 : k = 2
  · subst h2
    refine enter Tryz.func27 rfl (by simp only [Tryz.ntmps27, List.length_cons, List.length_nil, Nat.reduceAdd, Nat.reduceSub, List.replicate_succ, List.replicate_zero, List.cons_append, List.nil_append]; exact rfl) ?_
    repeat' (first | refine zN ?_ | (refine WC.quietG hg ?_; clear hg) | ((with_reducible refine WQ.nilG ?_); intro w hg) | (refine zB ?_; clear hg; intro b w hg; refine WO.fr ?_) | (refine zW ?_; clear hg; intro w hg; refine WO.fr ?_) | (refine op_pureB hg ?_; clear hg; intro w hg c hc; cases c <;> refine WO.fr ?_))
    exact ret1 rfl ⟨rfl, hg.drop⟩
  rw [if_neg h2]
  by_cases h3 : k = 3
  · subst h3
    refine enter Tryz.func27 rfl (by simp only [Tryz.ntmps27, List.length_cons, List.length_nil, Nat.reduceAdd, Nat.reduceSub, List.replicate_succ, List.replicate_zero, List.cons_append, List.nil_append]; exact rfl) ?_
    repeat' (first | refine zN ?_ | (refine WC.quietG hg ?_; clear hg) | ((with_reducible refine WQ.nilG ?_); intro w hg) | (refine zB ?_; clear hg; intro b w hg; refine WO.fr ?_) | (refine zW ?_; clear hg; intro w hg; refine WO.fr ?_) | (refine op_pureB hg ?_; clear hg; intro w hg c hc; cases c <;> refine WO.fr ?_))
    exact ret1 rfl ⟨rfl, hg.drop⟩
  rw [if_neg h3]
  by_cases h4 : k = 4
  · subst h4
    refine enter Tryz.func27 rfl (by simp only [Tryz.ntmps27, List.length_cons, List.length_nil, Nat.reduceAdd, Nat.reduceSub, List.replicate_succ, List.replicate_zero, List.cons_append, List.nil_append]; exact rfl) ?_
    repeat' (first | refine zN ?_ | (refine WC.quietG hg ?_; clear hg) | ((with_reducible refine WQ.nilG ?_); intro w hg) | (refine zB ?_; clear hg; intro b w hg; refine WO.fr ?_) | (refine zW ?_; clear hg; intro w hg; refine WO.fr ?_) | (refine op_pureB hg ?_; clear hg; intro w hg c hc; cases c <;> refine WO.fr ?_))
    exact ret1 rfl ⟨rfl, hg.drop⟩
  rw [if_neg h4]
  by_cases h5 : k = 5
  · subst h5
    refine enter Tryz.func27 rfl (by simp only [Tryz.ntmps27, List.length_cons, List.length_nil, Nat.reduceAdd, Nat.reduceSub, List.replicate_succ, List.replicate_zero, List.cons_append, List.nil_append]; exact rfl) ?_
    repeat' (first | refine zN ?_ | (refine WC.quietG hg ?_; clear hg) | ((with_reducible refine WQ.nilG ?_); intro w hg) | (refine zB ?_; clear hg; intro b w hg; refine WO.fr ?_) | (refine zW ?_; clear hg; intro w hg; refine WO.fr ?_) | (refine op_pureB hg ?_; clear hg; intro w hg c hc; cases c <;> refine WO.fr ?_))
    exact ret1 rfl ⟨rfl, hg.drop⟩
  rw [if_neg h5]
  by_cases h6 : k = 6
  · subst h6
    refine enter Tryz.func27 rfl (by simp only [Tryz.ntmps27, List.length_cons, List.length_nil, Nat.reduceAdd, Nat.reduceSub, List.replicate_succ, List.replicate_zero, List.cons_append, List.nil_append]; exact rfl) ?_
    repeat' (first | refine zN ?_ | (refine WC.quietG hg ?_; clear hg) | ((with_reducible refine WQ.nilG ?_); intro w hg) | (refine zB ?_; clear hg; intro b w hg; refine WO.fr ?_) | (refine zW ?_; clear hg; intro w hg; refine WO.fr ?_) | (refine op_pureB hg ?_; clear hg; intro w hg c hc; cases c <;> refine WO.fr ?_))
    exact ret1 rfl ⟨rfl, hg.drop⟩
  rw [if_neg h6]
  by_cases h7 : k = 7
  · subst h7
    refine enter Tryz.func27 rfl (by simp only [Tryz.ntmps27, List.length_cons, List.length_nil, Nat.reduceAdd, Nat.reduceSub, List.replicate_succ, List.replicate_zero, List.cons_append, List.nil_append]; exact rfl) ?_
    repeat' (first | refine zN ?_ | (refine WC.quietG hg ?_; clear hg) | ((with_reducible refine WQ.nilG ?_); intro w hg) | (refine zB ?_; clear hg; intro b w hg; refine WO.fr ?_) | (refine zW ?_; clear hg; intro w hg; refine WO.fr ?_) | (refine op_pureB hg ?_; clear hg; intro w hg c hc; cases c <;> refine WO.fr ?_))
    exact ret1 rfl ⟨rfl, hg.drop⟩
  rw [if_neg h7]
  by_cases h8 : k = 8
  · subst h8
    refine enter Tryz.func27 rfl (by simp only [Tryz.ntmps27, List.length_cons, List.length_nil, Nat.reduceAdd, Nat.reduceSub, List.replicate_succ, List.replicate_zero, List.cons_append, List.nil_append]; exact rfl) ?_
    repeat' (first | refine zN ?_ | (refine WC.quietG hg ?_; clear hg) | ((with_reducible refine WQ.nilG ?_); intro w hg) | (refine zB ?_; clear hg; intro b w hg; refine WO.fr ?_) | (refine zW ?_; clear hg; intro w hg; refine WO.fr ?_) | (refine op_pureB hg ?_; clear hg; intro w hg c hc; cases c <;> refine WO.fr ?_))
    exact ret1 rfl ⟨rfl, hg.drop⟩
  rw [if_neg h8]
  by_cases h9 : k = 9
  · subst h9
    refine enter Tryz.func27 rfl (by simp only [Tryz.ntmps27, List.length_cons, List.length_nil, Nat.reduceAdd, Nat.reduceSub, List.replicate_succ, List.replicate_zero, List.cons_append, List.nil_append]; exact rfl) ?_
    repeat' (first | refine zN ?_ | (refine WC.quietG hg ?_; clear hg) | ((with_reducible refine WQ.nilG ?_); intro w hg) | (refine zB ?_; clear hg; intro b w hg; refine WO.fr ?_) | (refine zW ?_; clear hg; intro w hg; refine WO.fr ?_) | (refine op_pureB hg ?_; clear hg; intro w hg c hc; cases c <;> refine WO.fr ?_))
    exact ret1 rfl ⟨rfl, hg.drop⟩
  rw [if_neg h9]
  refine enter Tryz.func27 rfl (by simp only [Tryz.ntmps27, List.length_cons, List.length_nil, Nat.reduceAdd, Nat.reduceSub, List.replicate_succ, List.replicate_zero, List.cons_append, List.nil_append]; exact rfl) ?_
  repeat' (first | refine zN ?_ | (refine WC.quietG hg ?_; clear hg) | ((with_reducible refine WQ.nilG ?_); intro w hg) | (refine zB ?_; clear hg; intro b w hg; refine WO.fr ?_) | (refine zW ?_; clear hg; intro w hg; refine WO.fr ?_) | (refine op_pureB hg ?_; clear hg; intro w hg c hc; cases c <;> refine WO.fr ?_))
  exact ret1 rfl ⟨rfl, hg.drop⟩
theorem jSteps_spec {W w : World} {pj : Nat} {n : Int} (hc : w.cell? ⟨pj, 3, none⟩ = some (.int .i64 n)) : Calls Tryz.prog 12 #[.pointer (some ⟨pj, 0, none⟩)] w fun e w' => e = .returned (.int .i64 n) ∧ Goes w [] [] w' := by
  have hg := Goes.refl w
  have c1 : ∀ {w' Fs}, Goes w [] Fs w' → w'.cell? ⟨pj, 3, none⟩ = some (.int .i64 n) := fun h => h.cellOld0 hc
  refine enter Tryz.func12 rfl (by simp only [Tryz.ntmps12, List.length_cons, List.length_nil, Nat.reduceAdd, Nat.reduceSub, List.replicate_succ, List.replicate_zero, List.cons_append, List.nil_append]; exact rfl) ?_
  repeat' (first | refine zN ?_ | (refine WC.quietG hg ?_; clear hg) | ((with_reducible refine WQ.nilG ?_); intro w hg) | (refine zB ?_; clear hg; intro b w hg; refine WO.fr ?_) | (refine zW ?_; clear hg; intro w hg; refine WO.fr ?_) | (refine op_pureB hg ?_; clear hg; intro w hg c hc; cases c <;> refine WO.fr ?_))
  exact ret1 rfl ⟨rfl, hg.drop⟩
end Go.Proofs.YtkdidefghbeabaaGreat
