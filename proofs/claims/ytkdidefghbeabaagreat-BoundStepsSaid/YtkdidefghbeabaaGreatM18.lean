/- The cursor as it lies; low, needed, changed, lack, answer, Reclaim. The cursor's jobs: as they lie; look. -/
import Derived.Test.YtkdidefghbeabaaGreatM17
namespace Go.Proofs.YtkdidefghbeabaaGreat
open Go Go.RowKit
set_option maxRecDepth 10000
set_option linter.unusedSimpArgs false
set_option linter.unusedVariables false

structure CU where
  pw : Nat
  pm : Nat
  closed : Bool
  na : Int
  nmd : Int
  dp : Int
  sa : Option Addr
  sn : Nat
  sc : Nat
  ep : Int
  aa : Int
  amd : Int
  al : Int
  ae : Int
  ps : Option Nat
abbrev cuF (pc : Nat) (vm vd va : Value) (p : Prm) (x : CU) : Frag := [(pc, .cells [vm, vd, va, .int .i64 p.bytes, .int .i64 p.trail, .int .i64 p.marks, .int .i64 p.ahead, .int .i64 p.tickets, .int .i64 p.retries, .int .i64 p.step, .pointer (some ⟨x.pw, 0, none⟩), .bool x.closed, .int .i64 x.na, .int .i64 x.nmd, .int .i64 x.dp, .slice x.sa x.sn x.sc, .pointer (some ⟨x.pm, 0, none⟩), .int .i64 x.ep, .int .i64 x.aa, .int .i64 x.amd, .int .i64 x.al, .int .i64 x.ae, ptrO x.ps].toArray 82 (0, 0))]
structure CurOK (vm vd va : Value) (L : PLex) (p : Prm) (T : Nat) (x : CU) (s : WS) (sl : List Slt) (fw fm fa fB : Frag) : Prop where
  w : WinF x.pw p s fw
  k : WOK p.bytes s
  al : s.all.length ≤ 40 * T
  m : MarkF x.pm sl fm
  ms : ∀ y ∈ sl, SltOK fB T y
  mn : 0 < sl.length ∧ sl.length ≤ 4096
  b : TrOK fB x.dp (.slice x.sa x.sn x.sc)
  e : 0 ≤ x.ep ∧ x.ep ≤ T
  t : T ≤ 900
  l : 0 ≤ x.al ∧ x.al ≤ 16
  a : ∃ σ, SlotOK vm vd va L x.ps fa σ
def Cur (W : World) (pc : Nat) (vm vd va : Value) (L : PLex) (p : Prm) (T : Nat) (x : CU) (s : WS) (Fs : List Frag) (w : World) : Prop :=
  ∃ sl fw fm fa fB, CurOK vm vd va L p T x s sl fw fm fa fB ∧ Goes W [] (cuF pc vm vd va p x :: fw :: fm :: fa :: fB :: Fs) w
theorem CurOK.up {vm vd va : Value} {L : PLex} {p : Prm} {T : Nat} {x : CU} {s : WS} {sl : List Slt} {fw fm fa fB : Frag} (h : CurOK vm vd va L p T x s sl fw fm fa fB) {T' : Nat} (hT : T ≤ T') (h9 : T' ≤ 900) : CurOK vm vd va L p T' x s sl fw fm fa fB :=
  ⟨h.w, h.k, by have := h.al; omega, h.m, fun y hy => (h.ms y hy).mono (Sub.refl _) hT, h.mn, h.b, by have := h.e; omega, h9, h.l, h.a⟩
theorem Cur.up {W : World} {pc : Nat} {vm vd va : Value} {L : PLex} {p : Prm} {T : Nat} {x : CU} {s : WS} {Fs : List Frag} {w : World} (h : Cur W pc vm vd va L p T x s Fs w) {T' : Nat} (hT : T ≤ T') (h9 : T' ≤ 900) : Cur W pc vm vd va L p T' x s Fs w := by
  obtain ⟨sl, fw, fm, fa, fB, h1, h2⟩ := h
  exact ⟨sl, fw, fm, fa, fB, h1.up hT h9, h2⟩

/-- What an operation answers. -/
def resV (e n : Int) (t : Tok) : Value := .agg #[.int .i64 e, .int .i64 n, .int .i64 t.kind, .int .i64 t.rule, .int .i64 t.fr, .int .i64 t.at', .int .i64 t.to, .int .i64 t.mode]
theorem answer_spec (w0 : World) (e : Int) : Calls Tryz.prog 31 #[.int .i64 e] w0 fun r w' => r = .returned (.tuple #[resV e 0 Tok.none, .bool true]) ∧ Goes w0 [] [] w' := by
  have hg := Goes.refl w0
  refine enter Tryz.func31 rfl (by simp only [Tryz.ntmps31, List.length_cons, List.length_nil, Nat.reduceAdd, Nat.reduceSub, List.replicate_succ, List.replicate_zero, List.cons_append, List.nil_append]; exact rfl) ?_
  repeat' (first | refine zN ?_ | (refine WC.quietG hg ?_; clear hg) | ((with_reducible refine WQ.nilG ?_); intro w hg) | (refine zB ?_; clear hg; intro b w hg; refine WO.fr ?_) | (refine zW ?_; clear hg; intro w hg; refine WO.fr ?_) | (refine op_pureB hg ?_; clear hg; intro w hg c hc; cases c <;> refine WO.fr ?_))
  exact ret (.cells rfl (by first | with_reducible assumption | ((with_reducible apply Cells.ldn); (first | with_reducible assumption | ((with_reducible apply hg.cells0); with_reducible assumption) | with_reducible exact r1 hg | with_reducible exact r2 hg | with_reducible exact r3 hg | with_reducible exact r4 hg | with_reducible exact r5 hg | with_reducible exact t1 hs | with_reducible exact t2 hs | with_reducible exact t3 hs | with_reducible exact t4 hs); exact rfl) | ((with_reducible apply CellsAt.ldn (hg := hg)); (repeat (first | ((with_reducible apply CellsAt.whole); exact rfl) | ((with_reducible apply CellsAt.here) <;> first | with_reducible assumption | (simp only [List.drop_zero, List.drop_succ_cons, List.take_succ_cons, List.take_zero]; exact rfl) | exact rfl) | with_reducible apply CellsAt.more | with_reducible apply CellsAt.next)); done)) (.tmp rfl .nil)) ⟨rfl, hg.drop⟩
theorem slow_spec {fB : Frag} {dp : Int} {v : Value} {w0 : World} (a m : Int) (hT : TrOK fB dp v) (hO : ∀ p ∈ fB, w0.heap[p.1]? = some p.2) : Calls Tryz.prog 90 #[.agg #[.int .i64 a, .int .i64 m, .int .i64 dp, v]] w0 fun e w' => (∃ n, e = .returned (.int .i64 n)) ∧ Goes w0 [] [] w' := by
  have hT0 := hT
  obtain ⟨a', n, c, rfl⟩ := hT.slice
  have hg := Goes.refl w0
  refine enter Tryz.func90 rfl (by simp only [Tryz.ntmps90, List.length_cons, List.length_nil, Nat.reduceAdd, Nat.reduceSub, List.replicate_succ, List.replicate_zero, List.cons_append, List.nil_append]; exact rfl) ?_
  repeat' (first | refine zN ?_ | (refine WC.quietG hg ?_; clear hg) | ((with_reducible refine WQ.nilG ?_); intro w hg) | (refine zB ?_; clear hg; intro b w hg; refine WO.fr ?_) | (refine zW ?_; clear hg; intro w hg; refine WO.fr ?_) | (refine op_pureB hg ?_; clear hg; intro w hg c hc; cases c <;> refine WO.fr ?_))
  refine op_call (trLow_spec a hT0 (heap_goes hO hg.drop)) ?_
  rintro _ w ⟨⟨n', rfl⟩, hg2⟩
  replace hg := hg.call00 hg2
  clear hg2
  refine ⟨_, rfl, ?_⟩
  refine WO.fr ?_
  repeat' (first | refine zN ?_ | (refine WC.quietG hg ?_; clear hg) | ((with_reducible refine WQ.nilG ?_); intro w hg) | (refine zB ?_; clear hg; intro b w hg; refine WO.fr ?_) | (refine zW ?_; clear hg; intro w hg; refine WO.fr ?_) | (refine op_pureB hg ?_; clear hg; intro w hg c hc; cases c <;> refine WO.fr ?_))
  exact ret1 rfl ⟨⟨_, rfl⟩, hg.drop⟩

section
variable {W : World} {pc : Nat} {vm vd va : Value} {L : PLex} {p : Prm} {T : Nat} {x : CU} {s : WS} {Fs : List Frag} {w : World}
set_option maxHeartbeats 2000000 in
theorem needed_spec (hC : Cur W pc vm vd va L p T x s Fs w) : Calls Tryz.prog 93 #[.pointer (some ⟨pc, 0, none⟩)] w fun e w' => ∃ s', (∃ v, e = .returned v) ∧ s'.all = s.all ∧ s'.fl = s.fl ∧ Cur W pc vm vd va L p T x s' Fs w' := by
  obtain ⟨sl, fw, fm, fa, fB, hK, hg⟩ := hC
  simp only [cuF] at hg
  refine enter Tryz.func93 rfl (by simp only [Tryz.ntmps93, List.length_cons, List.length_nil, Nat.reduceAdd, Nat.reduceSub, List.replicate_succ, List.replicate_zero, List.cons_append, List.nil_append]; exact rfl) ?_
  repeat' (first | refine zN ?_ | ((with_reducible refine WQ.nilG ?_); intro w hg) | (refine zB ?_; clear hg; intro b w hg; refine WO.fr ?_) | (refine zW ?_; clear hg; intro w hg; refine WO.fr ?_) | (refine op_pureB hg ?_; clear hg; intro w hg c hc; cases c <;> refine WO.fr ?_))
  have s1 : ∀ {w : World}, (w.heap[pc]? = some (.cells [vm, vd, va, .int .i64 p.bytes, .int .i64 p.trail, .int .i64 p.marks, .int .i64 p.ahead, .int .i64 p.tickets, .int .i64 p.retries, .int .i64 p.step, .pointer (some ⟨x.pw, 0, none⟩), .bool x.closed, .int .i64 x.na, .int .i64 x.nmd, .int .i64 x.dp, .slice x.sa x.sn x.sc, .pointer (some ⟨x.pm, 0, none⟩), .int .i64 x.ep, .int .i64 x.aa, .int .i64 x.amd, .int .i64 x.al, .int .i64 x.ae, ptrO x.ps].toArray 82 (0, 0))) → w.cell? ⟨pc, 10, none⟩ = some (.pointer (some ⟨x.pw, 0, none⟩)) := fun h => heap_cell h rfl
  have s2 : ∀ {w : World}, (w.heap[pc]? = some (.cells [vm, vd, va, .int .i64 p.bytes, .int .i64 p.trail, .int .i64 p.marks, .int .i64 p.ahead, .int .i64 p.tickets, .int .i64 p.retries, .int .i64 p.step, .pointer (some ⟨x.pw, 0, none⟩), .bool x.closed, .int .i64 x.na, .int .i64 x.nmd, .int .i64 x.dp, .slice x.sa x.sn x.sc, .pointer (some ⟨x.pm, 0, none⟩), .int .i64 x.ep, .int .i64 x.aa, .int .i64 x.amd, .int .i64 x.al, .int .i64 x.ae, ptrO x.ps].toArray 82 (0, 0))) → w.cell? ⟨pc, 16, none⟩ = some (.pointer (some ⟨x.pm, 0, none⟩)) := fun h => heap_cell h rfl
  have t1 : ∀ {w : World}, (w.heap[pc]? = some (.cells [vm, vd, va, .int .i64 p.bytes, .int .i64 p.trail, .int .i64 p.marks, .int .i64 p.ahead, .int .i64 p.tickets, .int .i64 p.retries, .int .i64 p.step, .pointer (some ⟨x.pw, 0, none⟩), .bool x.closed, .int .i64 x.na, .int .i64 x.nmd, .int .i64 x.dp, .slice x.sa x.sn x.sc, .pointer (some ⟨x.pm, 0, none⟩), .int .i64 x.ep, .int .i64 x.aa, .int .i64 x.amd, .int .i64 x.al, .int .i64 x.ae, ptrO x.ps].toArray 82 (0, 0))) → Cells w ⟨pc, 12, none⟩ [.int .i64 x.na, .int .i64 x.nmd, .int .i64 x.dp, .slice x.sa x.sn x.sc] := fun h => heap_cells h rfl
  refine WC.drawn (fun w => w.heap[pc]? = some (.cells [vm, vd, va, .int .i64 p.bytes, .int .i64 p.trail, .int .i64 p.marks, .int .i64 p.ahead, .int .i64 p.tickets, .int .i64 p.retries, .int .i64 p.step, .pointer (some ⟨x.pw, 0, none⟩), .bool x.closed, .int .i64 x.na, .int .i64 x.nmd, .int .i64 x.dp, .slice x.sa x.sn x.sc, .pointer (some ⟨x.pm, 0, none⟩), .int .i64 x.ep, .int .i64 x.aa, .int .i64 x.amd, .int .i64 x.al, .int .i64 x.ae, ptrO x.ps].toArray 82 (0, 0))) [] hg ?_
  clear hg
  intro w hg
  have hS : (fun w => w.heap[pc]? = some (.cells [vm, vd, va, .int .i64 p.bytes, .int .i64 p.trail, .int .i64 p.marks, .int .i64 p.ahead, .int .i64 p.tickets, .int .i64 p.retries, .int .i64 p.step, .pointer (some ⟨x.pw, 0, none⟩), .bool x.closed, .int .i64 x.na, .int .i64 x.nmd, .int .i64 x.dp, .slice x.sa x.sn x.sc, .pointer (some ⟨x.pm, 0, none⟩), .int .i64 x.ep, .int .i64 x.aa, .int .i64 x.amd, .int .i64 x.al, .int .i64 x.ae, ptrO x.ps].toArray 82 (0, 0))) w := hg.own (pc, .cells [vm, vd, va, .int .i64 p.bytes, .int .i64 p.trail, .int .i64 p.marks, .int .i64 p.ahead, .int .i64 p.tickets, .int .i64 p.retries, .int .i64 p.step, .pointer (some ⟨x.pw, 0, none⟩), .bool x.closed, .int .i64 x.na, .int .i64 x.nmd, .int .i64 x.dp, .slice x.sa x.sn x.sc, .pointer (some ⟨x.pm, 0, none⟩), .int .i64 x.ep, .int .i64 x.aa, .int .i64 x.amd, .int .i64 x.al, .int .i64 x.ae, ptrO x.ps].toArray 82 (0, 0)) (by simp)
  refine WA.passM 0 hS ?_
  refine WA.passM 1 hS ?_
  refine WA.passM 2 hS ?_
  refine WA.passM 4 hS ?_
  refine WA.passM 5 hS ?_
  refine WA.passM 6 hS ?_
  refine WA.passM 8 hS ?_
  refine WA.passM 9 hS ?_
  refine WA.passM 10 hS ?_
  refine WA.passM 3 hS ?_
  refine WA.passM 7 hS ?_
  refine WA.passM 11 hS ?_
  refine WA.only 12 ?_
  refine op_call (slow_spec x.na x.nmd hK.b (hg.front 4).own0) ?_
  rintro _ w ⟨⟨n1, rfl⟩, hg2⟩
  replace hg := hg.call00 hg2
  clear hg2 hS
  refine ⟨_, rfl, ?_⟩
  refine WO.fr ?_
  have hS : (fun w => w.heap[pc]? = some (.cells [vm, vd, va, .int .i64 p.bytes, .int .i64 p.trail, .int .i64 p.marks, .int .i64 p.ahead, .int .i64 p.tickets, .int .i64 p.retries, .int .i64 p.step, .pointer (some ⟨x.pw, 0, none⟩), .bool x.closed, .int .i64 x.na, .int .i64 x.nmd, .int .i64 x.dp, .slice x.sa x.sn x.sc, .pointer (some ⟨x.pm, 0, none⟩), .int .i64 x.ep, .int .i64 x.aa, .int .i64 x.amd, .int .i64 x.al, .int .i64 x.ae, ptrO x.ps].toArray 82 (0, 0))) w := hg.own (pc, .cells [vm, vd, va, .int .i64 p.bytes, .int .i64 p.trail, .int .i64 p.marks, .int .i64 p.ahead, .int .i64 p.tickets, .int .i64 p.retries, .int .i64 p.step, .pointer (some ⟨x.pw, 0, none⟩), .bool x.closed, .int .i64 x.na, .int .i64 x.nmd, .int .i64 x.dp, .slice x.sa x.sn x.sc, .pointer (some ⟨x.pm, 0, none⟩), .int .i64 x.ep, .int .i64 x.aa, .int .i64 x.amd, .int .i64 x.al, .int .i64 x.ae, ptrO x.ps].toArray 82 (0, 0)) (by simp)
  refine WO.nilA hS ?_
  refine WA.only 13 ?_
  refine op_call (mLow_spec n1 hK.mn.2 hK.m (hg.front 2).own0) ?_
  rintro _ w ⟨⟨n2, rfl⟩, hg2⟩
  replace hg := hg.call00 hg2
  clear hg2 hS
  refine ⟨_, rfl, ?_⟩
  refine WO.fr ?_
  have hS : (fun w => w.heap[pc]? = some (.cells [vm, vd, va, .int .i64 p.bytes, .int .i64 p.trail, .int .i64 p.marks, .int .i64 p.ahead, .int .i64 p.tickets, .int .i64 p.retries, .int .i64 p.step, .pointer (some ⟨x.pw, 0, none⟩), .bool x.closed, .int .i64 x.na, .int .i64 x.nmd, .int .i64 x.dp, .slice x.sa x.sn x.sc, .pointer (some ⟨x.pm, 0, none⟩), .int .i64 x.ep, .int .i64 x.aa, .int .i64 x.amd, .int .i64 x.al, .int .i64 x.ae, ptrO x.ps].toArray 82 (0, 0))) w := hg.own (pc, .cells [vm, vd, va, .int .i64 p.bytes, .int .i64 p.trail, .int .i64 p.marks, .int .i64 p.ahead, .int .i64 p.tickets, .int .i64 p.retries, .int .i64 p.step, .pointer (some ⟨x.pw, 0, none⟩), .bool x.closed, .int .i64 x.na, .int .i64 x.nmd, .int .i64 x.dp, .slice x.sa x.sn x.sc, .pointer (some ⟨x.pm, 0, none⟩), .int .i64 x.ep, .int .i64 x.aa, .int .i64 x.amd, .int .i64 x.al, .int .i64 x.ae, ptrO x.ps].toArray 82 (0, 0)) (by simp)
  refine WO.nilA hS ?_
  refine WA.only 14 ?_
  refine op_call (wNeed_spec n2 hK.w (hg.front 1).owns1 hK.k) ?_
  rintro _ w ⟨fw', rfl, hW', hg2⟩
  replace hg := (hg.front 1).callF hg2
  clear hg2 hS
  refine ⟨_, rfl, ?_⟩
  refine WO.fr ?_
  have hS : (fun w => w.heap[pc]? = some (.cells [vm, vd, va, .int .i64 p.bytes, .int .i64 p.trail, .int .i64 p.marks, .int .i64 p.ahead, .int .i64 p.tickets, .int .i64 p.retries, .int .i64 p.step, .pointer (some ⟨x.pw, 0, none⟩), .bool x.closed, .int .i64 x.na, .int .i64 x.nmd, .int .i64 x.dp, .slice x.sa x.sn x.sc, .pointer (some ⟨x.pm, 0, none⟩), .int .i64 x.ep, .int .i64 x.aa, .int .i64 x.amd, .int .i64 x.al, .int .i64 x.ae, ptrO x.ps].toArray 82 (0, 0))) w := hg.own (pc, .cells [vm, vd, va, .int .i64 p.bytes, .int .i64 p.trail, .int .i64 p.marks, .int .i64 p.ahead, .int .i64 p.tickets, .int .i64 p.retries, .int .i64 p.step, .pointer (some ⟨x.pw, 0, none⟩), .bool x.closed, .int .i64 x.na, .int .i64 x.nmd, .int .i64 x.dp, .slice x.sa x.sn x.sc, .pointer (some ⟨x.pm, 0, none⟩), .int .i64 x.ep, .int .i64 x.aa, .int .i64 x.amd, .int .i64 x.al, .int .i64 x.ae, ptrO x.ps].toArray 82 (0, 0)) (by simp)
  refine WO.nilA hS ?_
  refine WA.nil ?_
  clear hS s1 s2 t1
  repeat' (first | refine zN ?_ | ((with_reducible refine WQ.nilG ?_); intro w hg) | (refine zB ?_; clear hg; intro b w hg; refine WO.fr ?_) | (refine zW ?_; clear hg; intro w hg; refine WO.fr ?_) | (refine op_pureB hg ?_; clear hg; intro w hg c hc; cases c <;> refine WO.fr ?_))
  exact end0 rfl ⟨s.need n2, ⟨_, rfl⟩, rfl, rfl, sl, fw', fm, fa, fB, ⟨hW', hK.k.need n2, hK.al, hK.m, hK.ms, hK.mn, hK.b, hK.e, hK.t, hK.l, hK.a⟩, hg.front 1⟩
set_option maxHeartbeats 2000000 in
theorem changed_spec (h9 : T + 1 ≤ 900) (hC : Cur W pc vm vd va L p T x s Fs w) : Calls Tryz.prog 85 #[.pointer (some ⟨pc, 0, none⟩)] w fun e w' => ∃ s', (∃ v, e = .returned v) ∧ s'.all = s.all ∧ s'.fl = s.fl ∧ Cur W pc vm vd va L p (T + 1) { x with ep := x.ep + 1 } s' Fs w' := by
  obtain ⟨sl, fw, fm, fa, fB, hK, hg⟩ := hC
  have he := hK.e
  simp only [cuF] at hg
  refine enter Tryz.func85 rfl (by simp only [Tryz.ntmps85, List.length_cons, List.length_nil, Nat.reduceAdd, Nat.reduceSub, List.replicate_succ, List.replicate_zero, List.cons_append, List.nil_append]; exact rfl) ?_
  repeat' (first | refine zN ?_ | ((with_reducible refine WQ.nilG ?_); intro w hg) | (refine zB ?_; clear hg; intro b w hg; refine WO.fr ?_) | (refine zW ?_; clear hg; intro w hg; refine WO.fr ?_) | (refine op_pureB hg ?_; clear hg; intro w hg c hc; cases c <;> refine WO.fr ?_))
  have hC2 : Cur W pc vm vd va L p (T + 1) { x with ep := x.ep + 1 } s Fs w := ⟨sl, fw, fm, fa, fB, (by
    have h := hK.up (T' := T + 1) (by omega) h9
    exact ⟨h.w, h.k, h.al, h.m, h.ms, h.mn, h.b, by dsimp only; omega, h.t, h.l, h.a⟩), hg⟩
  refine op_call (needed_spec hC2) ?_
  rintro _ w2 ⟨s', ⟨v, rfl⟩, h1, h2, h3⟩
  clear hg
  refine ⟨_, rfl, ?_⟩
  refine WO.fr ?_
  repeat' (first | refine zN ?_ | ((with_reducible refine WQ.nilG ?_); intro w hg) | (refine zB ?_; clear hg; intro b w hg; refine WO.fr ?_) | (refine zW ?_; clear hg; intro w hg; refine WO.fr ?_) | (refine op_pureB hg ?_; clear hg; intro w hg c hc; cases c <;> refine WO.fr ?_))
  exact end0 rfl ⟨s', ⟨_, rfl⟩, h1, h2, h3⟩
set_option maxHeartbeats 1000000 in
theorem lack_spec (hC : Cur W pc vm vd va L p T x s Fs w) : Calls Tryz.prog 117 #[.pointer (some ⟨pc, 0, none⟩)] w fun e w' => (∃ n, e = .returned (.int .i64 n)) ∧ Goes w [] [] w' := by
  obtain ⟨sl, fw, fm, fa, fB, hK, hg0⟩ := hC
  have hO := hg0.own (pc, .cells [vm, vd, va, .int .i64 p.bytes, .int .i64 p.trail, .int .i64 p.marks, .int .i64 p.ahead, .int .i64 p.tickets, .int .i64 p.retries, .int .i64 p.step, .pointer (some ⟨x.pw, 0, none⟩), .bool x.closed, .int .i64 x.na, .int .i64 x.nmd, .int .i64 x.dp, .slice x.sa x.sn x.sc, .pointer (some ⟨x.pm, 0, none⟩), .int .i64 x.ep, .int .i64 x.aa, .int .i64 x.amd, .int .i64 x.al, .int .i64 x.ae, ptrO x.ps].toArray 82 (0, 0)) (by simp [cuF])
  have hal := hK.al
  have ht := hK.t
  have hb2 := hK.k.b2
  have hh2 := hK.k.h2
  have hg := Goes.refl w
  have c1 : ∀ {w' Fs}, Goes w [] Fs w' → w'.cell? ⟨pc, 10, none⟩ = some (.pointer (some ⟨x.pw, 0, none⟩)) := fun h => h.cellOld0 (heap_cell hO rfl)
  have p1 : ∀ {w' Fs}, Goes w [] Fs w' → Calls Tryz.prog 141 #[.pointer (some ⟨x.pw, 0, none⟩)] w' _ := fun h => wRoom_spec hK.w ((hg0.front 1).owns1.on h) ⟨by omega, hh2, hb2⟩
  by_cases h0 : (s.low : Int) + p.bytes - s.all.length = 0
  · rw [h0] at p1
    refine enter Tryz.func117 rfl (by simp only [Tryz.ntmps117, List.length_cons, List.length_nil, Nat.reduceAdd, Nat.reduceSub, List.replicate_succ, List.replicate_zero, List.cons_append, List.nil_append]; exact rfl) ?_
    repeat' (first | refine zN ?_ | (refine WC.quietG hg ?_; clear hg) | ((with_reducible refine WQ.nilG ?_); intro w hg) | (refine zB ?_; clear hg; intro b w hg; refine WO.fr ?_) | (refine zW ?_; clear hg; intro w hg; refine WO.fr ?_) | (refine op_pureB hg ?_; clear hg; intro w hg c hc; cases c <;> refine WO.fr ?_))
    exact ret1 rfl ⟨⟨_, rfl⟩, hg.drop⟩
  · refine enter Tryz.func117 rfl (by simp only [Tryz.ntmps117, List.length_cons, List.length_nil, Nat.reduceAdd, Nat.reduceSub, List.replicate_succ, List.replicate_zero, List.cons_append, List.nil_append]; exact rfl) ?_
    repeat' (first | refine zN ?_ | (refine WC.quietG hg ?_; clear hg) | ((with_reducible refine WQ.nilG ?_); intro w hg) | (refine zB ?_; clear hg; intro b w hg; refine WO.fr ?_) | (refine zW ?_; clear hg; intro w hg; refine WO.fr ?_) | (refine op_pureB hg ?_; clear hg; intro w hg c hc; cases c <;> refine WO.fr ?_))
    exact ret1 rfl ⟨⟨_, rfl⟩, hg.drop⟩
set_option maxHeartbeats 2000000 in
theorem cReclaim_spec (hC : Cur W pc vm vd va L p T x s Fs w) : Calls Tryz.prog 15 #[.pointer (some ⟨pc, 0, none⟩)] w fun e w' => ∃ s', (∃ v, e = .returned v) ∧ s'.all = s.all ∧ s'.low = s.low ∧ s.fl ≤ s'.fl ∧ Cur W pc vm vd va L p T x s' Fs w' := by
  obtain ⟨sl, fw, fm, fa, fB, hK, hg⟩ := hC
  have hal := hK.al
  have ht := hK.t
  simp only [cuF] at hg
  refine enter Tryz.func15 rfl (by simp only [Tryz.ntmps15, List.length_cons, List.length_nil, Nat.reduceAdd, Nat.reduceSub, List.replicate_succ, List.replicate_zero, List.cons_append, List.nil_append]; exact rfl) ?_
  repeat' (first | refine zN ?_ | ((with_reducible refine WQ.nilG ?_); intro w hg) | (refine zB ?_; clear hg; intro b w hg; refine WO.fr ?_) | (refine zW ?_; clear hg; intro w hg; refine WO.fr ?_) | (refine op_pureB hg ?_; clear hg; intro w hg c hc; cases c <;> refine WO.fr ?_))
  have s1 : ∀ {w : World}, (w.heap[pc]? = some (.cells [vm, vd, va, .int .i64 p.bytes, .int .i64 p.trail, .int .i64 p.marks, .int .i64 p.ahead, .int .i64 p.tickets, .int .i64 p.retries, .int .i64 p.step, .pointer (some ⟨x.pw, 0, none⟩), .bool x.closed, .int .i64 x.na, .int .i64 x.nmd, .int .i64 x.dp, .slice x.sa x.sn x.sc, .pointer (some ⟨x.pm, 0, none⟩), .int .i64 x.ep, .int .i64 x.aa, .int .i64 x.amd, .int .i64 x.al, .int .i64 x.ae, ptrO x.ps].toArray 82 (0, 0))) → w.cell? ⟨pc, 10, none⟩ = some (.pointer (some ⟨x.pw, 0, none⟩)) := fun h => heap_cell h rfl
  have s2 : ∀ {w : World}, (w.heap[pc]? = some (.cells [vm, vd, va, .int .i64 p.bytes, .int .i64 p.trail, .int .i64 p.marks, .int .i64 p.ahead, .int .i64 p.tickets, .int .i64 p.retries, .int .i64 p.step, .pointer (some ⟨x.pw, 0, none⟩), .bool x.closed, .int .i64 x.na, .int .i64 x.nmd, .int .i64 x.dp, .slice x.sa x.sn x.sc, .pointer (some ⟨x.pm, 0, none⟩), .int .i64 x.ep, .int .i64 x.aa, .int .i64 x.amd, .int .i64 x.al, .int .i64 x.ae, ptrO x.ps].toArray 82 (0, 0))) → w.cell? ⟨pc, 9, none⟩ = some (.int .i64 p.step) := fun h => heap_cell h rfl
  refine WC.drawn (fun w => w.heap[pc]? = some (.cells [vm, vd, va, .int .i64 p.bytes, .int .i64 p.trail, .int .i64 p.marks, .int .i64 p.ahead, .int .i64 p.tickets, .int .i64 p.retries, .int .i64 p.step, .pointer (some ⟨x.pw, 0, none⟩), .bool x.closed, .int .i64 x.na, .int .i64 x.nmd, .int .i64 x.dp, .slice x.sa x.sn x.sc, .pointer (some ⟨x.pm, 0, none⟩), .int .i64 x.ep, .int .i64 x.aa, .int .i64 x.amd, .int .i64 x.al, .int .i64 x.ae, ptrO x.ps].toArray 82 (0, 0))) [] hg ?_
  clear hg
  intro w hg
  have hS : (fun w => w.heap[pc]? = some (.cells [vm, vd, va, .int .i64 p.bytes, .int .i64 p.trail, .int .i64 p.marks, .int .i64 p.ahead, .int .i64 p.tickets, .int .i64 p.retries, .int .i64 p.step, .pointer (some ⟨x.pw, 0, none⟩), .bool x.closed, .int .i64 x.na, .int .i64 x.nmd, .int .i64 x.dp, .slice x.sa x.sn x.sc, .pointer (some ⟨x.pm, 0, none⟩), .int .i64 x.ep, .int .i64 x.aa, .int .i64 x.amd, .int .i64 x.al, .int .i64 x.ae, ptrO x.ps].toArray 82 (0, 0))) w := hg.own (pc, .cells [vm, vd, va, .int .i64 p.bytes, .int .i64 p.trail, .int .i64 p.marks, .int .i64 p.ahead, .int .i64 p.tickets, .int .i64 p.retries, .int .i64 p.step, .pointer (some ⟨x.pw, 0, none⟩), .bool x.closed, .int .i64 x.na, .int .i64 x.nmd, .int .i64 x.dp, .slice x.sa x.sn x.sc, .pointer (some ⟨x.pm, 0, none⟩), .int .i64 x.ep, .int .i64 x.aa, .int .i64 x.amd, .int .i64 x.al, .int .i64 x.ae, ptrO x.ps].toArray 82 (0, 0)) (by simp)
  refine WA.passM 0 hS ?_
  refine WA.passM 1 hS ?_
  refine WA.passM 2 hS ?_
  refine WA.passM 4 hS ?_
  refine WA.passM 5 hS ?_
  refine WA.passM 6 hS ?_
  refine WA.passM 7 hS ?_
  refine WA.passM 3 hS ?_
  refine WA.passM 8 hS ?_
  refine WA.only 9 ?_
  refine op_call (wReclaim_spec p.step hK.w (hg.front 1).owns1 hK.k (by omega)) ?_
  rintro _ w ⟨fw', rfl, hW', hg2⟩
  replace hg := (hg.front 1).callF hg2
  clear hg2 hS
  refine ⟨_, rfl, ?_⟩
  refine WO.fr ?_
  have hS : (fun w => w.heap[pc]? = some (.cells [vm, vd, va, .int .i64 p.bytes, .int .i64 p.trail, .int .i64 p.marks, .int .i64 p.ahead, .int .i64 p.tickets, .int .i64 p.retries, .int .i64 p.step, .pointer (some ⟨x.pw, 0, none⟩), .bool x.closed, .int .i64 x.na, .int .i64 x.nmd, .int .i64 x.dp, .slice x.sa x.sn x.sc, .pointer (some ⟨x.pm, 0, none⟩), .int .i64 x.ep, .int .i64 x.aa, .int .i64 x.amd, .int .i64 x.al, .int .i64 x.ae, ptrO x.ps].toArray 82 (0, 0))) w := hg.own (pc, .cells [vm, vd, va, .int .i64 p.bytes, .int .i64 p.trail, .int .i64 p.marks, .int .i64 p.ahead, .int .i64 p.tickets, .int .i64 p.retries, .int .i64 p.step, .pointer (some ⟨x.pw, 0, none⟩), .bool x.closed, .int .i64 x.na, .int .i64 x.nmd, .int .i64 x.dp, .slice x.sa x.sn x.sc, .pointer (some ⟨x.pm, 0, none⟩), .int .i64 x.ep, .int .i64 x.aa, .int .i64 x.amd, .int .i64 x.al, .int .i64 x.ae, ptrO x.ps].toArray 82 (0, 0)) (by simp)
  refine WO.nilA hS ?_
  refine WA.passM 10 hS ?_
  refine WA.nil ?_
  clear hS s1 s2
  repeat' (first | refine zN ?_ | ((with_reducible refine WQ.nilG ?_); intro w hg) | (refine zB ?_; clear hg; intro b w hg; refine WO.fr ?_) | (refine zW ?_; clear hg; intro w hg; refine WO.fr ?_) | (refine op_pureB hg ?_; clear hg; intro w hg c hc; cases c <;> refine WO.fr ?_))
  exact ret1 rfl ⟨s.recl p.step, ⟨_, rfl⟩, rfl, rfl, Nat.le_add_right _ _, sl, fw', fm, fa, fB, ⟨hW', hK.k.recl _, hK.al, hK.m, hK.ms, hK.mn, hK.b, hK.e, hK.t, hK.l, hK.a⟩, hg.front 1⟩
end
end Go.Proofs.YtkdidefghbeabaaGreat
namespace Go.Proofs.YtkdidefghbeabaaGreat
open Go Go.RowKit
set_option maxRecDepth 10000
set_option linter.unusedSimpArgs false
set_option linter.unusedVariables false

structure JB where
  kind : Int
  n : Int
  data : List UInt8
  steps : Int
  done : Bool
  at' : Int
  md : Int
  left : Int
  ps : Option Nat
  fn : FuncId
abbrev jF (pj : Nat) (j : JB) : Frag := [(pj, .cells [.int .i64 j.kind, .int .i64 j.n, .string (str j.data), .int .i64 j.steps, .bool j.done, .int .i64 j.at', .int .i64 j.md, .int .i64 j.left, ptrO j.ps, .func (.func j.fn) #[] #[]].toArray 86 (0, 0))]
theorem Goes.glue {w0 w : World} {M : List Nat} {f1 f2 : Frag} {Fs : List Frag} (h : Goes w0 M (f1 :: f2 :: Fs) w) : Goes w0 M ((f1 ++ f2) :: Fs) w := h.perm (by simp)
theorem Goes.unglue {w0 w : World} {M : List Nat} {f1 f2 : Frag} {Fs : List Frag} (h : Goes w0 M ((f1 ++ f2) :: Fs) w) : Goes w0 M (f1 :: f2 :: Fs) w := h.perm (by simp)
/-- The slot in a job. -/
theorem jobSlot (pc pj : Nat) (p : Prm) (vm vd va : Value) (x : CU) (j : JB) : SlotAt pc x.pw pj 8 p x.closed vm vd va (fun v => cuF pc vm vd va p x ++ jF pj { j with ps := v }) := by
  refine ⟨?_, ?_, ?_, ?_, ?_, ?_⟩
  · exact fun v w h => heap_cell (h (pc, .cells [vm, vd, va, .int .i64 p.bytes, .int .i64 p.trail, .int .i64 p.marks, .int .i64 p.ahead, .int .i64 p.tickets, .int .i64 p.retries, .int .i64 p.step, .pointer (some ⟨x.pw, 0, none⟩), .bool x.closed, .int .i64 x.na, .int .i64 x.nmd, .int .i64 x.dp, .slice x.sa x.sn x.sc, .pointer (some ⟨x.pm, 0, none⟩), .int .i64 x.ep, .int .i64 x.aa, .int .i64 x.amd, .int .i64 x.al, .int .i64 x.ae, ptrO x.ps].toArray 82 (0, 0)) (by simp [cuF])) rfl
  · exact fun v w h => heap_cell (h (pc, .cells [vm, vd, va, .int .i64 p.bytes, .int .i64 p.trail, .int .i64 p.marks, .int .i64 p.ahead, .int .i64 p.tickets, .int .i64 p.retries, .int .i64 p.step, .pointer (some ⟨x.pw, 0, none⟩), .bool x.closed, .int .i64 x.na, .int .i64 x.nmd, .int .i64 x.dp, .slice x.sa x.sn x.sc, .pointer (some ⟨x.pm, 0, none⟩), .int .i64 x.ep, .int .i64 x.aa, .int .i64 x.amd, .int .i64 x.al, .int .i64 x.ae, ptrO x.ps].toArray 82 (0, 0)) (by simp [cuF])) rfl
  · exact fun v w h => heap_cell (h (pc, .cells [vm, vd, va, .int .i64 p.bytes, .int .i64 p.trail, .int .i64 p.marks, .int .i64 p.ahead, .int .i64 p.tickets, .int .i64 p.retries, .int .i64 p.step, .pointer (some ⟨x.pw, 0, none⟩), .bool x.closed, .int .i64 x.na, .int .i64 x.nmd, .int .i64 x.dp, .slice x.sa x.sn x.sc, .pointer (some ⟨x.pm, 0, none⟩), .int .i64 x.ep, .int .i64 x.aa, .int .i64 x.amd, .int .i64 x.al, .int .i64 x.ae, ptrO x.ps].toArray 82 (0, 0)) (by simp [cuF])) rfl
  · exact fun v w h => heap_cells (h (pc, .cells [vm, vd, va, .int .i64 p.bytes, .int .i64 p.trail, .int .i64 p.marks, .int .i64 p.ahead, .int .i64 p.tickets, .int .i64 p.retries, .int .i64 p.step, .pointer (some ⟨x.pw, 0, none⟩), .bool x.closed, .int .i64 x.na, .int .i64 x.nmd, .int .i64 x.dp, .slice x.sa x.sn x.sc, .pointer (some ⟨x.pm, 0, none⟩), .int .i64 x.ep, .int .i64 x.aa, .int .i64 x.amd, .int .i64 x.al, .int .i64 x.ae, ptrO x.ps].toArray 82 (0, 0)) (by simp [cuF])) rfl
  · intro v w h
    have := h _ (List.mem_append_right _ (List.mem_singleton.2 rfl))
    exact heap_cell this rfl
  · exact fun v v' => ⟨_, _, by simp, fun Fs => .more .here⟩
/-- The slot of what goes ahead. -/
theorem aheadSlot (pc : Nat) (p : Prm) (vm vd va : Value) (x : CU) : SlotAt pc x.pw pc 22 p x.closed vm vd va (fun v => cuF pc vm vd va p { x with ps := v }) := by
  refine ⟨?_, ?_, ?_, ?_, ?_, ?_⟩
  · exact fun v w h => heap_cell (h _ (List.mem_singleton.2 rfl)) rfl
  · exact fun v w h => heap_cell (h _ (List.mem_singleton.2 rfl)) rfl
  · exact fun v w h => heap_cell (h _ (List.mem_singleton.2 rfl)) rfl
  · exact fun v w h => heap_cells (h _ (List.mem_singleton.2 rfl)) rfl
  · exact fun v w h => heap_cell (h _ (List.mem_singleton.2 rfl)) rfl
  · exact fun v v' => ⟨_, _, by simp, fun Fs => .here⟩
/-- How many steps of a token's search are still to come. -/
def potL (B E : Nat) (left : Int) (σ : Option SC) : Nat := (left.toNat - 1) * (B + B * B + 1) + mO B E σ
structure LookR (B E : Nat) (j j' : JB) (σ σ' : Option SC) (done : Bool) : Prop where
  e : j' = { j with at' := j'.at', md := j'.md, left := j'.left, ps := j'.ps }
  n : nearO B E σ → nearO B E σ' ∧ (done = false → potL B E j'.left σ' < potL B E j.left σ)
  l : done = false → 1 ≤ j'.left ∧ j'.left ≤ j.left
theorem potL_next {B E : Nat} {left : Int} {σ : Option SC} (h : 1 ≤ left - 1) : potL B E (left - 1) none < potL B E left σ := by
  obtain ⟨k, hk⟩ : ∃ k : Nat, left = k + 2 := ⟨(left - 2).toNat, by omega⟩
  subst hk
  unfold potL mO
  have e1 : ((k + 2 : Int) - 1).toNat - 1 = k := by omega
  have e2 : ((k + 2 : Int)).toNat - 1 = k + 1 := by omega
  rw [e1, e2, Nat.succ_mul]
  have : ∀ (u : Nat), u = B + B * B → k * (u + 1) + u < k * (u + 1) + (u + 1) + (match σ with | none => u | some s => s.m B E) := fun u _ => by omega
  exact this _ rfl
theorem potL_same {B E : Nat} {left : Int} {σ σ' : Option SC} (h : mO B E σ' < mO B E σ) : potL B E left σ' < potL B E left σ := by
  unfold potL; omega
section
variable {W : World} {pc pj : Nat} {vm vd va : Value} {L : PLex} {p : Prm} {T : Nat} {x : CU} {s : WS} {j : JB} {fj : Frag} {Fs : List Frag} {w : World} {σ : Option SC}
set_option maxHeartbeats 8000000 in
theorem look_spec {B : Nat} (hB : p.bytes = B) (hp : p.right = true) (hL : LexAt W [vm, vd, va] L) (hok : LexOK L) (hl : 1 ≤ j.left ∧ j.left ≤ 100) (hSl : SlotOK vm vd va L j.ps fj σ) (hC : Cur W pc vm vd va L p T x s (jF pj j :: fj :: Fs) w) :
    Calls Tryz.prog 86 #[.pointer (some ⟨pc, 0, none⟩), .pointer (some ⟨pj, 0, none⟩)] w fun e w' => ∃ (er : Int) (t : Tok) (done : Bool) (j' : JB) (fj' : Frag) (σ' : Option SC) (s' : WS), e = .returned (.tuple #[resV er 0 t, .bool done]) ∧ SlotOK vm vd va L j'.ps fj' σ' ∧ LookR B s.all.length j j' σ σ' done ∧ s'.fl = s.fl ∧ s'.low = s.low ∧ s'.all = s.all ∧ Cur W pc vm vd va L p T x s' (jF pj j' :: fj' :: Fs) w' := by
  obtain ⟨sl, fw, fm, fa, fB, hK, hg⟩ := hC
  have hal := hK.al
  have ht := hK.t
  simp only [cuF, jF] at hg
  refine enter Tryz.func86 rfl (by simp only [Tryz.ntmps86, List.length_cons, List.length_nil, Nat.reduceAdd, Nat.reduceSub, List.replicate_succ, List.replicate_zero, List.cons_append, List.nil_append]; exact rfl) ?_
  repeat' (first | refine zN ?_ | ((with_reducible refine WQ.nilG ?_); intro w hg) | (refine zB ?_; clear hg; intro b w hg; refine WO.fr ?_) | (refine zW ?_; clear hg; intro w hg; refine WO.fr ?_) | (refine op_pureB hg ?_; clear hg; intro w hg c hc; cases c <;> refine WO.fr ?_))
  obtain ⟨br, rfl⟩ : ∃ z, z = b := ⟨b, rfl⟩
  have t1 : ∀ {w : World}, (∃ v, w.heap[pj]? = some (.cells [.int .i64 j.kind, .int .i64 j.n, .string (str j.data), .int .i64 j.steps, .bool j.done, .int .i64 j.at', .int .i64 j.md, .int .i64 j.left, ptrO v, .func (.func j.fn) #[] #[]].toArray 86 (0, 0))) → Cells w ⟨pj, 5, none⟩ [.int .i64 j.at', .int .i64 j.md] := fun h => heap_cells h.choose_spec rfl
  have hK1 := jobSlot pc pj p vm vd va x j
  have hnx : ∀ {w : World} {Fs2 : List Frag}, Goes W [] ([(pc, .cells [vm, vd, va, .int .i64 p.bytes, .int .i64 p.trail, .int .i64 p.marks, .int .i64 p.ahead, .int .i64 p.tickets, .int .i64 p.retries, .int .i64 p.step, .pointer (some ⟨x.pw, 0, none⟩), .bool x.closed, .int .i64 x.na, .int .i64 x.nmd, .int .i64 x.dp, .slice x.sa x.sn x.sc, .pointer (some ⟨x.pm, 0, none⟩), .int .i64 x.ep, .int .i64 x.aa, .int .i64 x.amd, .int .i64 x.al, .int .i64 x.ae, ptrO x.ps].toArray 82 (0, 0))] :: fw :: fm :: fa :: fB :: [(pj, .cells [.int .i64 j.kind, .int .i64 j.n, .string (str j.data), .int .i64 j.steps, .bool j.done, .int .i64 j.at', .int .i64 j.md, .int .i64 j.left, ptrO j.ps, .func (.func j.fn) #[] #[]].toArray 86 (0, 0))] :: fj :: Fs2) w → Calls Tryz.prog 32 #[.pointer (some ⟨pc, 0, none⟩), .agg [.int .i64 j.at', .int .i64 j.md].toArray, .pointer (some ⟨pj, 8, none⟩)] w fun e w' => ∃ (t : Tok) (kn st : Bool) (v' : Option Nat) (fs' : Frag) (σ' : Option SC) (fw' : Frag) (s' : WS), e = .returned (.tuple #[.agg t.enc.toArray, .bool kn, .bool st]) ∧ SlotOK vm vd va L v' fs' σ' ∧ Nxt B s.all.length σ σ' kn st ∧ WinF x.pw p s' fw' ∧ WOK p.bytes s' ∧ s'.fl = s.fl ∧ s'.low = s.low ∧ s'.all = s.all ∧ Goes W [] (cuF pc vm vd va p x :: fw' :: fm :: fa :: fB :: jF pj { j with ps := v' } :: fs' :: Fs2) w' := fun {w Fs2} hg => by
    have h2 := next_spec (Fs := fm :: fa :: fB :: Fs2) j.at' j.md hB hp hK1 hL hok hK.w hK.k (by omega) hSl (Goes.glue (((((((hg.front 4).front 4).front 4).front 6).front 5).front 6).front 6))
    refine h2.mono ?_
    rintro e w' ⟨t, kn, st, v', fs', σ', fw', s', he, h3, h4, h5, h6, h7, h8, h9, hg⟩
    refine ⟨t, kn, st, v', fs', σ', fw', s', he, h3, h4, h5, h6, h7, h8, h9, ?_⟩
    replace hg := hg.unglue
    exact (((((((hg.front 3).front 2).front 6).front 6).front 6).front 6).front 6)
  refine WC.cut [6, 7, 8, 9, 10, 11, 12, 13, 14, 15, 16, 17, 18, 19, 20, 21] (fun xs w => ∃ (bt : Nat) (t : Tok) (kn st : Bool) (v' : Option Nat) (fs' : Frag) (σ' : Option SC) (fw' : Frag) (s' : WS), (gt xs 0) = .pointer (some ⟨bt, 0, none⟩) ∧ (gt xs 1) = .bool kn ∧ (gt xs 2) = .bool st ∧ SlotOK vm vd va L v' fs' σ' ∧ Nxt B s.all.length σ σ' kn st ∧ WinF x.pw p s' fw' ∧ WOK p.bytes s' ∧ s'.fl = s.fl ∧ s'.low = s.low ∧ s'.all = s.all ∧ Goes W [] ([(br, .cells [.int .i64 0, .int .i64 0, .int .i64 0, .int .i64 0, .int .i64 0, .int .i64 0, .int .i64 0, .int .i64 0].toArray 50 (0, 0))] :: [(bt, .cells [.int .i64 t.kind, .int .i64 t.rule, .int .i64 t.fr, .int .i64 t.at', .int .i64 t.to, .int .i64 t.mode].toArray 48 (0, 0))] :: cuF pc vm vd va p x :: fw' :: fm :: fa :: fB :: jF pj { j with ps := v' } :: fs' :: Fs) w) ?_ ?_
  · skip
    refine WC.drawn (fun w => ∃ v, w.heap[pj]? = some (.cells [.int .i64 j.kind, .int .i64 j.n, .string (str j.data), .int .i64 j.steps, .bool j.done, .int .i64 j.at', .int .i64 j.md, .int .i64 j.left, ptrO v, .func (.func j.fn) #[] #[]].toArray 86 (0, 0))) [] hg ?_
    clear hg
    intro w hg
    have hS : (fun w => ∃ v, w.heap[pj]? = some (.cells [.int .i64 j.kind, .int .i64 j.n, .string (str j.data), .int .i64 j.steps, .bool j.done, .int .i64 j.at', .int .i64 j.md, .int .i64 j.left, ptrO v, .func (.func j.fn) #[] #[]].toArray 86 (0, 0))) w := ⟨j.ps, hg.own (pj, .cells [.int .i64 j.kind, .int .i64 j.n, .string (str j.data), .int .i64 j.steps, .bool j.done, .int .i64 j.at', .int .i64 j.md, .int .i64 j.left, ptrO j.ps, .func (.func j.fn) #[] #[]].toArray 86 (0, 0)) (by simp)⟩
    refine WA.passM 0 hS ?_
    refine WA.passM 1 hS ?_
    refine WA.passM 2 hS ?_
    refine WA.passM 3 hS ?_
    refine WA.passM 5 hS ?_
    refine WA.passM 6 hS ?_
    refine WA.passM 7 hS ?_
    refine WA.passM 4 hS ?_
    refine WA.two 8 13 ?_ ?_
    · replace hg := (((((((hg.front 7).front 7).front 7).front 7).front 7).front 7).front 7)
      refine op_call (hnx hg) ?_
      clear hg hS
      rintro _ w ⟨t, kn, st, v', fs', σ', fw', s', rfl, h3, h4, h5, h6, h7, h8, h9, hg⟩
      simp only [Tok.enc]
      refine ⟨_, rfl, ?_⟩
      refine WO.fr ?_
      have hS : (fun w => ∃ v, w.heap[pj]? = some (.cells [.int .i64 j.kind, .int .i64 j.n, .string (str j.data), .int .i64 j.steps, .bool j.done, .int .i64 j.at', .int .i64 j.md, .int .i64 j.left, ptrO v, .func (.func j.fn) #[] #[]].toArray 86 (0, 0))) w := ⟨v', hg.own (pj, .cells [.int .i64 j.kind, .int .i64 j.n, .string (str j.data), .int .i64 j.steps, .bool j.done, .int .i64 j.at', .int .i64 j.md, .int .i64 j.left, ptrO v', .func (.func j.fn) #[] #[]].toArray 86 (0, 0)) (by simp)⟩
      refine WO.nilA hS ?_
      refine WA.passM 9 hS ?_
      refine WA.passM 10 hS ?_
      refine WA.passM 11 hS ?_
      refine WA.passM 12 hS ?_
      refine WA.only 13 ?_
      refine op_alloc hg ?_
      clear hg hS
      intro bt w hg
      refine WO.fr ?_
      have hS : (fun w => ∃ v, w.heap[pj]? = some (.cells [.int .i64 j.kind, .int .i64 j.n, .string (str j.data), .int .i64 j.steps, .bool j.done, .int .i64 j.at', .int .i64 j.md, .int .i64 j.left, ptrO v, .func (.func j.fn) #[] #[]].toArray 86 (0, 0))) w := ⟨v', hg.own (pj, .cells [.int .i64 j.kind, .int .i64 j.n, .string (str j.data), .int .i64 j.steps, .bool j.done, .int .i64 j.at', .int .i64 j.md, .int .i64 j.left, ptrO v', .func (.func j.fn) #[] #[]].toArray 86 (0, 0)) (by simp)⟩
      refine WO.nilA hS ?_
      refine WA.only 14 ?_
      refine op_stA hg ?_
      clear hg hS
      intro w hg
      refine WO.fr ?_
      have hS : (fun w => ∃ v, w.heap[pj]? = some (.cells [.int .i64 j.kind, .int .i64 j.n, .string (str j.data), .int .i64 j.steps, .bool j.done, .int .i64 j.at', .int .i64 j.md, .int .i64 j.left, ptrO v, .func (.func j.fn) #[] #[]].toArray 86 (0, 0))) w := ⟨v', hg.own (pj, .cells [.int .i64 j.kind, .int .i64 j.n, .string (str j.data), .int .i64 j.steps, .bool j.done, .int .i64 j.at', .int .i64 j.md, .int .i64 j.left, ptrO v', .func (.func j.fn) #[] #[]].toArray 86 (0, 0)) (by simp)⟩
      refine WO.nilA hS ?_
      refine WA.passM 15 hS ?_
      refine WA.passM 16 hS ?_
      refine WA.nil ?_
      with_reducible refine CutQ.mk ?_ ?_
      · simp only [setAll, List.map_cons, List.map_nil, gt, List.set_cons_succ, List.set_cons_zero]
      try simp only [List.map_cons, List.map_nil, gt]
      exact ⟨bt, t, kn, st, v', fs', σ', fw', s', by trivial, by trivial, by trivial, h3, h4, h5, h6, h7, h8, h9, (((((((((hg.front 7).front 7).front 7).front 7).front 7).front 7).front 7).front 7).front 8)⟩
    · refine op_alloc hg ?_
      clear hg hS
      intro bt w hg
      refine WO.fr ?_
      have hS : (fun w => ∃ v, w.heap[pj]? = some (.cells [.int .i64 j.kind, .int .i64 j.n, .string (str j.data), .int .i64 j.steps, .bool j.done, .int .i64 j.at', .int .i64 j.md, .int .i64 j.left, ptrO v, .func (.func j.fn) #[] #[]].toArray 86 (0, 0))) w := ⟨j.ps, hg.own (pj, .cells [.int .i64 j.kind, .int .i64 j.n, .string (str j.data), .int .i64 j.steps, .bool j.done, .int .i64 j.at', .int .i64 j.md, .int .i64 j.left, ptrO j.ps, .func (.func j.fn) #[] #[]].toArray 86 (0, 0)) (by simp)⟩
      refine WO.nilA hS ?_
      refine WA.only 8 ?_
      replace hg := (((((((((hg.front 1).front 1).front 8).front 8).front 8).front 8).front 8).front 8).front 8)
      refine op_call (hnx hg) ?_
      clear hg hS
      rintro _ w ⟨t, kn, st, v', fs', σ', fw', s', rfl, h3, h4, h5, h6, h7, h8, h9, hg⟩
      simp only [Tok.enc]
      refine ⟨_, rfl, ?_⟩
      refine WO.fr ?_
      have hS : (fun w => ∃ v, w.heap[pj]? = some (.cells [.int .i64 j.kind, .int .i64 j.n, .string (str j.data), .int .i64 j.steps, .bool j.done, .int .i64 j.at', .int .i64 j.md, .int .i64 j.left, ptrO v, .func (.func j.fn) #[] #[]].toArray 86 (0, 0))) w := ⟨v', hg.own (pj, .cells [.int .i64 j.kind, .int .i64 j.n, .string (str j.data), .int .i64 j.steps, .bool j.done, .int .i64 j.at', .int .i64 j.md, .int .i64 j.left, ptrO v', .func (.func j.fn) #[] #[]].toArray 86 (0, 0)) (by simp)⟩
      refine WO.nilA hS ?_
      refine WA.passM 9 hS ?_
      refine WA.passM 10 hS ?_
      refine WA.passM 11 hS ?_
      refine WA.passM 12 hS ?_
      refine WA.only 14 ?_
      refine op_stA hg ?_
      clear hg hS
      intro w hg
      refine WO.fr ?_
      have hS : (fun w => ∃ v, w.heap[pj]? = some (.cells [.int .i64 j.kind, .int .i64 j.n, .string (str j.data), .int .i64 j.steps, .bool j.done, .int .i64 j.at', .int .i64 j.md, .int .i64 j.left, ptrO v, .func (.func j.fn) #[] #[]].toArray 86 (0, 0))) w := ⟨v', hg.own (pj, .cells [.int .i64 j.kind, .int .i64 j.n, .string (str j.data), .int .i64 j.steps, .bool j.done, .int .i64 j.at', .int .i64 j.md, .int .i64 j.left, ptrO v', .func (.func j.fn) #[] #[]].toArray 86 (0, 0)) (by simp)⟩
      refine WO.nilA hS ?_
      refine WA.passM 15 hS ?_
      refine WA.passM 16 hS ?_
      refine WA.nil ?_
      with_reducible refine CutQ.mk ?_ ?_
      · simp only [setAll, List.map_cons, List.map_nil, gt, List.set_cons_succ, List.set_cons_zero]
      try simp only [List.map_cons, List.map_nil, gt]
      exact ⟨bt, t, kn, st, v', fs', σ', fw', s', by trivial, by trivial, by trivial, h3, h4, h5, h6, h7, h8, h9, (((((((((hg.front 6).front 6).front 6).front 6).front 6).front 6).front 6).front 7).front 8)⟩
  clear hg
  intro xs w hlen hI
  replace hlen := len_cons hlen
  obtain ⟨x6, xs, rfl, hlen⟩ := hlen
  replace hlen := len_cons hlen
  obtain ⟨x7, xs, rfl, hlen⟩ := hlen
  replace hlen := len_cons hlen
  obtain ⟨x8, xs, rfl, hlen⟩ := hlen
  replace hlen := len_cons hlen
  obtain ⟨x9, xs, rfl, hlen⟩ := hlen
  replace hlen := len_cons hlen
  obtain ⟨x10, xs, rfl, hlen⟩ := hlen
  replace hlen := len_cons hlen
  obtain ⟨x11, xs, rfl, hlen⟩ := hlen
  replace hlen := len_cons hlen
  obtain ⟨x12, xs, rfl, hlen⟩ := hlen
  replace hlen := len_cons hlen
  obtain ⟨x13, xs, rfl, hlen⟩ := hlen
  replace hlen := len_cons hlen
  obtain ⟨x14, xs, rfl, hlen⟩ := hlen
  replace hlen := len_cons hlen
  obtain ⟨x15, xs, rfl, hlen⟩ := hlen
  replace hlen := len_cons hlen
  obtain ⟨x16, xs, rfl, hlen⟩ := hlen
  replace hlen := len_cons hlen
  obtain ⟨x17, xs, rfl, hlen⟩ := hlen
  replace hlen := len_cons hlen
  obtain ⟨x18, xs, rfl, hlen⟩ := hlen
  replace hlen := len_cons hlen
  obtain ⟨x19, xs, rfl, hlen⟩ := hlen
  replace hlen := len_cons hlen
  obtain ⟨x20, xs, rfl, hlen⟩ := hlen
  replace hlen := len_cons hlen
  obtain ⟨x21, xs, rfl, hlen⟩ := hlen
  replace hlen := len_nil hlen
  subst hlen
  refine QX.frame (by simp only [setAll, List.set_cons_succ, List.set_cons_zero]; exact rfl) ?_
  try simp only [gt] at hI
  clear hnx t1
  obtain ⟨bt, t, kn, st, v', fs', σ', fw', s', rfl, rfl, rfl, hS1, hN, hW', hK', h7, h8, h9, hg⟩ := hI
  have hCK : CurOK vm vd va L p T x s' sl fw' fm fa fB := ⟨hW', hK', by rw [h9]; exact hK.al, hK.m, hK.ms, hK.mn, hK.b, hK.e, hK.t, hK.l, hK.a⟩
  have hCu : ∀ {w : World} {f1 f2 : Frag} {j' : JB}, Goes W [] (f1 :: f2 :: cuF pc vm vd va p x :: fw' :: fm :: fa :: fB :: jF pj j' :: fs' :: Fs) w → Cur W pc vm vd va L p T x s' (jF pj j' :: fs' :: Fs) w := fun hg => ⟨sl, fw', fm, fa, fB, hCK, hg.drop0.drop0⟩
  cases st
  rotate_left
  · have hkn : kn = false := by
      cases kn
      · rfl
      · cases (hN.k rfl).1
    subst hkn
    simp only [cuF, jF] at hg
    repeat' (first | refine zN ?_ | ((with_reducible refine WQ.nilG ?_); intro w hg) | (refine zB ?_; clear hg; intro b w hg; refine WO.fr ?_) | (refine zW ?_; clear hg; intro w hg; refine WO.fr ?_) | (refine op_pureB hg ?_; clear hg; intro w hg c hc; cases c <;> refine WO.fr ?_))
    refine op_call (lack_spec (hCu (j' := { j with ps := v' }) hg)) ?_
    rintro _ w2 ⟨⟨n, rfl⟩, hg2⟩
    replace hg := hg.call00 hg2
    clear hg2
    refine ⟨_, rfl, ?_⟩
    refine WO.fr ?_
    have p1 : ∀ {w' Fs}, Goes W [] Fs w' → Calls Tryz.prog 31 #[.int .i64 n] w' _ := fun h => answer_spec _ n
    simp only [resV, Tok.none] at p1
    repeat' (first | refine zN ?_ | ((with_reducible refine WQ.nilG ?_); intro w hg) | (refine zB ?_; clear hg; intro b w hg; refine WO.fr ?_) | (refine zW ?_; clear hg; intro w hg; refine WO.fr ?_) | (refine op_pureB hg ?_; clear hg; intro w hg c hc; cases c <;> refine WO.fr ?_))
    exact ret (.cells rfl (by first | with_reducible assumption | ((with_reducible apply Cells.ldn); (first | with_reducible assumption | ((with_reducible apply hg.cells0); with_reducible assumption) | with_reducible exact r1 hg | with_reducible exact r2 hg | with_reducible exact r3 hg | with_reducible exact r4 hg | with_reducible exact r5 hg | with_reducible exact t1 hs | with_reducible exact t2 hs | with_reducible exact t3 hs | with_reducible exact t4 hs); exact rfl) | ((with_reducible apply CellsAt.ldn (hg := hg)); (repeat (first | ((with_reducible apply CellsAt.whole); exact rfl) | ((with_reducible apply CellsAt.here) <;> first | with_reducible assumption | (simp only [List.drop_zero, List.drop_succ_cons, List.take_succ_cons, List.take_zero]; exact rfl) | exact rfl) | with_reducible apply CellsAt.more | with_reducible apply CellsAt.next)); done)) (.tmp rfl .nil)) ⟨n, Tok.none, true, { j with ps := v' }, fs', σ', s', rfl, hS1, ⟨rfl, fun h => ⟨(hN.m h).1, fun h => by cases h⟩, fun h => by cases h⟩, h7, h8, h9, hCu hg⟩
  cases kn
  · simp only [cuF, jF] at hg
    repeat' (first | refine zN ?_ | ((with_reducible refine WQ.nilG ?_); intro w hg) | (refine zB ?_; clear hg; intro b w hg; refine WO.fr ?_) | (refine zW ?_; clear hg; intro w hg; refine WO.fr ?_) | (refine op_pureB hg ?_; clear hg; intro w hg c hc; cases c <;> refine WO.fr ?_))
    exact ret (.cells rfl (by first | with_reducible assumption | ((with_reducible apply Cells.ldn); (first | with_reducible assumption | ((with_reducible apply hg.cells0); with_reducible assumption) | with_reducible exact r1 hg | with_reducible exact r2 hg | with_reducible exact r3 hg | with_reducible exact r4 hg | with_reducible exact r5 hg | with_reducible exact t1 hs | with_reducible exact t2 hs | with_reducible exact t3 hs | with_reducible exact t4 hs); exact rfl) | ((with_reducible apply CellsAt.ldn (hg := hg)); (repeat (first | ((with_reducible apply CellsAt.whole); exact rfl) | ((with_reducible apply CellsAt.here) <;> first | with_reducible assumption | (simp only [List.drop_zero, List.drop_succ_cons, List.take_succ_cons, List.take_zero]; exact rfl) | exact rfl) | with_reducible apply CellsAt.more | with_reducible apply CellsAt.next)); done)) (.tmp rfl .nil)) ⟨0, Tok.none, false, { j with ps := v' }, fs', σ', s', rfl, hS1, ⟨rfl, fun h => ⟨(hN.m h).1, fun _ => potL_same ((hN.m h).2 rfl rfl)⟩, fun _ => ⟨hl.1, Int.le_refl _⟩⟩, h7, h8, h9, hCu hg⟩
  · simp only [cuF, jF] at hg
    have p1 : ∀ {w' Fs}, Goes W [] Fs w' → Calls Tryz.prog 33 #[.agg t.enc.toArray] w' _ := fun h => behind_spec _ t
    simp only [Tok.enc] at p1
    obtain rfl := (hN.k rfl).2
    have t1 : ∀ {w : World}, (w.heap[bt]? = some (.cells [.int .i64 t.kind, .int .i64 t.rule, .int .i64 t.fr, .int .i64 t.at', .int .i64 t.to, .int .i64 t.mode].toArray 48 (0, 0)) ∧ w.heap[pj]? = some (.cells [.int .i64 j.kind, .int .i64 j.n, .string (str j.data), .int .i64 j.steps, .bool j.done, .int .i64 t.to, .int .i64 t.mode, .int .i64 (j.left - 1), ptrO v', .func (.func j.fn) #[] #[]].toArray 86 (0, 0))) → Cells w ⟨bt, 0, none⟩ [.int .i64 t.kind, .int .i64 t.rule, .int .i64 t.fr, .int .i64 t.at', .int .i64 t.to, .int .i64 t.mode] := fun h => heap_cells h.1 rfl
    have s1 : ∀ {w : World}, (w.heap[bt]? = some (.cells [.int .i64 t.kind, .int .i64 t.rule, .int .i64 t.fr, .int .i64 t.at', .int .i64 t.to, .int .i64 t.mode].toArray 48 (0, 0)) ∧ w.heap[pj]? = some (.cells [.int .i64 j.kind, .int .i64 j.n, .string (str j.data), .int .i64 j.steps, .bool j.done, .int .i64 t.to, .int .i64 t.mode, .int .i64 (j.left - 1), ptrO v', .func (.func j.fn) #[] #[]].toArray 86 (0, 0))) → w.cell? ⟨pj, 7, none⟩ = some (.int .i64 (j.left - 1)) := fun h => heap_cell h.2 rfl
    repeat' (first | refine zN ?_ | ((with_reducible refine WQ.nilG ?_); intro w hg) | (refine zB ?_; clear hg; intro b w hg; refine WO.fr ?_) | (refine zW ?_; clear hg; intro w hg; refine WO.fr ?_) | (refine op_pureB hg ?_; clear hg; intro w hg c hc; cases c <;> refine WO.fr ?_))
    clear p1
    by_cases h1 : j.left = 1
    · skip
      refine WC.drawn (fun w => w.heap[bt]? = some (.cells [.int .i64 t.kind, .int .i64 t.rule, .int .i64 t.fr, .int .i64 t.at', .int .i64 t.to, .int .i64 t.mode].toArray 48 (0, 0)) ∧ w.heap[pj]? = some (.cells [.int .i64 j.kind, .int .i64 j.n, .string (str j.data), .int .i64 j.steps, .bool j.done, .int .i64 t.to, .int .i64 t.mode, .int .i64 (j.left - 1), ptrO v', .func (.func j.fn) #[] #[]].toArray 86 (0, 0))) [] hg ?_
      clear hg
      intro w hg
      have hS : (fun w => w.heap[bt]? = some (.cells [.int .i64 t.kind, .int .i64 t.rule, .int .i64 t.fr, .int .i64 t.at', .int .i64 t.to, .int .i64 t.mode].toArray 48 (0, 0)) ∧ w.heap[pj]? = some (.cells [.int .i64 j.kind, .int .i64 j.n, .string (str j.data), .int .i64 j.steps, .bool j.done, .int .i64 t.to, .int .i64 t.mode, .int .i64 (j.left - 1), ptrO v', .func (.func j.fn) #[] #[]].toArray 86 (0, 0))) w := ⟨hg.own (bt, .cells [.int .i64 t.kind, .int .i64 t.rule, .int .i64 t.fr, .int .i64 t.at', .int .i64 t.to, .int .i64 t.mode].toArray 48 (0, 0)) (by simp), hg.own (pj, .cells [.int .i64 j.kind, .int .i64 j.n, .string (str j.data), .int .i64 j.steps, .bool j.done, .int .i64 t.to, .int .i64 t.mode, .int .i64 (j.left - 1), ptrO v', .func (.func j.fn) #[] #[]].toArray 86 (0, 0)) (by simp)⟩
      refine WA.passM 2 hS ?_
      refine WA.passM 3 hS ?_
      refine WA.passM 4 hS ?_
      refine WA.passM 0 hS ?_
      refine WA.passM 1 hS ?_
      refine WA.passM 5 hS ?_
      refine WA.passM 6 hS ?_
      refine WA.only 7 ?_
      refine op_stA hg ?_
      clear hg hS
      intro w hg
      refine WO.fr ?_
      have hS : (fun w => w.heap[bt]? = some (.cells [.int .i64 t.kind, .int .i64 t.rule, .int .i64 t.fr, .int .i64 t.at', .int .i64 t.to, .int .i64 t.mode].toArray 48 (0, 0)) ∧ w.heap[pj]? = some (.cells [.int .i64 j.kind, .int .i64 j.n, .string (str j.data), .int .i64 j.steps, .bool j.done, .int .i64 t.to, .int .i64 t.mode, .int .i64 (j.left - 1), ptrO v', .func (.func j.fn) #[] #[]].toArray 86 (0, 0))) w := ⟨hg.own (bt, .cells [.int .i64 t.kind, .int .i64 t.rule, .int .i64 t.fr, .int .i64 t.at', .int .i64 t.to, .int .i64 t.mode].toArray 48 (0, 0)) (by simp), hg.own (pj, .cells [.int .i64 j.kind, .int .i64 j.n, .string (str j.data), .int .i64 j.steps, .bool j.done, .int .i64 t.to, .int .i64 t.mode, .int .i64 (j.left - 1), ptrO v', .func (.func j.fn) #[] #[]].toArray 86 (0, 0)) (by simp)⟩
      refine WO.nilA hS ?_
      refine WA.passM 8 hS ?_
      refine WA.nil ?_
      clear hS t1 s1
      repeat' (first | refine zN ?_ | ((with_reducible refine WQ.nilG ?_); intro w hg) | (refine zB ?_; clear hg; intro b w hg; refine WO.fr ?_) | (refine zW ?_; clear hg; intro w hg; refine WO.fr ?_) | (refine op_pureB hg ?_; clear hg; intro w hg c hc; cases c <;> refine WO.fr ?_))
      exact ret (.cells rfl (by first | with_reducible assumption | ((with_reducible apply Cells.ldn); (first | with_reducible assumption | ((with_reducible apply hg.cells0); with_reducible assumption) | with_reducible exact r1 hg | with_reducible exact r2 hg | with_reducible exact r3 hg | with_reducible exact r4 hg | with_reducible exact r5 hg | with_reducible exact t1 hs | with_reducible exact t2 hs | with_reducible exact t3 hs | with_reducible exact t4 hs); exact rfl) | ((with_reducible apply CellsAt.ldn (hg := hg)); (repeat (first | ((with_reducible apply CellsAt.whole); exact rfl) | ((with_reducible apply CellsAt.here) <;> first | with_reducible assumption | (simp only [List.drop_zero, List.drop_succ_cons, List.take_succ_cons, List.take_zero]; exact rfl) | exact rfl) | with_reducible apply CellsAt.more | with_reducible apply CellsAt.next)); done)) (.tmp rfl .nil)) ⟨0, t, true, { j with ps := v', at' := t.to, md := t.mode, left := j.left - 1 }, fs', none, s', by rfl, hS1, ⟨rfl, fun h => ⟨trivial, fun h => by cases h⟩, fun h => by cases h⟩, h7, h8, h9, hCu hg⟩
    · have hl1 : 2 ≤ j.left := by omega
      refine WC.drawn (fun w => w.heap[bt]? = some (.cells [.int .i64 t.kind, .int .i64 t.rule, .int .i64 t.fr, .int .i64 t.at', .int .i64 t.to, .int .i64 t.mode].toArray 48 (0, 0)) ∧ w.heap[pj]? = some (.cells [.int .i64 j.kind, .int .i64 j.n, .string (str j.data), .int .i64 j.steps, .bool j.done, .int .i64 t.to, .int .i64 t.mode, .int .i64 (j.left - 1), ptrO v', .func (.func j.fn) #[] #[]].toArray 86 (0, 0))) [] hg ?_
      clear hg
      intro w hg
      have hS : (fun w => w.heap[bt]? = some (.cells [.int .i64 t.kind, .int .i64 t.rule, .int .i64 t.fr, .int .i64 t.at', .int .i64 t.to, .int .i64 t.mode].toArray 48 (0, 0)) ∧ w.heap[pj]? = some (.cells [.int .i64 j.kind, .int .i64 j.n, .string (str j.data), .int .i64 j.steps, .bool j.done, .int .i64 t.to, .int .i64 t.mode, .int .i64 (j.left - 1), ptrO v', .func (.func j.fn) #[] #[]].toArray 86 (0, 0))) w := ⟨hg.own (bt, .cells [.int .i64 t.kind, .int .i64 t.rule, .int .i64 t.fr, .int .i64 t.at', .int .i64 t.to, .int .i64 t.mode].toArray 48 (0, 0)) (by simp), hg.own (pj, .cells [.int .i64 j.kind, .int .i64 j.n, .string (str j.data), .int .i64 j.steps, .bool j.done, .int .i64 t.to, .int .i64 t.mode, .int .i64 (j.left - 1), ptrO v', .func (.func j.fn) #[] #[]].toArray 86 (0, 0)) (by simp)⟩
      refine WA.passM 2 hS ?_
      refine WA.passM 3 hS ?_
      refine WA.passM 4 hS ?_
      refine WA.passM 0 hS ?_
      refine WA.passM 1 hS ?_
      refine WA.passM 5 hS ?_
      refine WA.passM 6 hS ?_
      refine WA.only 7 ?_
      refine op_stA hg ?_
      clear hg hS
      intro w hg
      refine WO.fr ?_
      have hS : (fun w => w.heap[bt]? = some (.cells [.int .i64 t.kind, .int .i64 t.rule, .int .i64 t.fr, .int .i64 t.at', .int .i64 t.to, .int .i64 t.mode].toArray 48 (0, 0)) ∧ w.heap[pj]? = some (.cells [.int .i64 j.kind, .int .i64 j.n, .string (str j.data), .int .i64 j.steps, .bool j.done, .int .i64 t.to, .int .i64 t.mode, .int .i64 (j.left - 1), ptrO v', .func (.func j.fn) #[] #[]].toArray 86 (0, 0))) w := ⟨hg.own (bt, .cells [.int .i64 t.kind, .int .i64 t.rule, .int .i64 t.fr, .int .i64 t.at', .int .i64 t.to, .int .i64 t.mode].toArray 48 (0, 0)) (by simp), hg.own (pj, .cells [.int .i64 j.kind, .int .i64 j.n, .string (str j.data), .int .i64 j.steps, .bool j.done, .int .i64 t.to, .int .i64 t.mode, .int .i64 (j.left - 1), ptrO v', .func (.func j.fn) #[] #[]].toArray 86 (0, 0)) (by simp)⟩
      refine WO.nilA hS ?_
      refine WA.passM 8 hS ?_
      refine WA.nil ?_
      clear hS t1 s1
      repeat' (first | refine zN ?_ | ((with_reducible refine WQ.nilG ?_); intro w hg) | (refine zB ?_; clear hg; intro b w hg; refine WO.fr ?_) | (refine zW ?_; clear hg; intro w hg; refine WO.fr ?_) | (refine op_pureB hg ?_; clear hg; intro w hg c hc; cases c <;> refine WO.fr ?_))
      exact ret (.cells rfl (by first | with_reducible assumption | ((with_reducible apply Cells.ldn); (first | with_reducible assumption | ((with_reducible apply hg.cells0); with_reducible assumption) | with_reducible exact r1 hg | with_reducible exact r2 hg | with_reducible exact r3 hg | with_reducible exact r4 hg | with_reducible exact r5 hg | with_reducible exact t1 hs | with_reducible exact t2 hs | with_reducible exact t3 hs | with_reducible exact t4 hs); exact rfl) | ((with_reducible apply CellsAt.ldn (hg := hg)); (repeat (first | ((with_reducible apply CellsAt.whole); exact rfl) | ((with_reducible apply CellsAt.here) <;> first | with_reducible assumption | (simp only [List.drop_zero, List.drop_succ_cons, List.take_succ_cons, List.take_zero]; exact rfl) | exact rfl) | with_reducible apply CellsAt.more | with_reducible apply CellsAt.next)); done)) (.tmp rfl .nil)) ⟨0, t, false, { j with ps := v', at' := t.to, md := t.mode, left := j.left - 1 }, fs', none, s', by rfl, hS1, ⟨rfl, fun h => ⟨trivial, fun _ => potL_next (by omega)⟩, fun _ => by dsimp only; omega⟩, h7, h8, h9, hCu hg⟩
end
end Go.Proofs.YtkdidefghbeabaaGreat
