/- The jobs' steps: feed. The jobs' steps: shut, pushBack, mark, release. -/
import Derived.Test.YtkdidefghbeabaaGreatM21
namespace Go.Proofs.YtkdidefghbeabaaGreat
open Go Go.RowKit
set_option maxRecDepth 10000
set_option linter.unusedSimpArgs false
set_option linter.unusedVariables false
theorem WOK.put {B : Int} {s : WS} (h : WOK B s) (t : List UInt8) (k : Nat) (hk : (k : Int) ≤ B - ((s.all.length : Int) - s.fl)) : WOK B { s with all := s.all ++ t.take k } := by
  have h1 := h.h1; have h2 := h.h2; have h3 := h.h3
  have : (t.take k).length ≤ k := by simp; omega
  exact ⟨h.b1, h.b2, h1, by dsimp only; rw [List.length_append]; omega, by dsimp only; rw [List.length_append]; omega, h.h4⟩
theorem Goes.reW2 {w0 w : World} {M : List Nat} {c a b d f1 f2 f3 f4 f5 f6 : Frag} {Fs : List Frag} (h : Goes w0 M (c :: a :: b :: d :: f1 :: f2 :: f3 :: f4 :: f5 :: f6 :: Fs) w) : Goes w0 M (c :: (a ++ (b ++ d)) :: f1 :: f2 :: f3 :: f4 :: f5 :: f6 :: Fs) w := h.perm (by simp)
theorem Goes.reW {w0 w : World} {M : List Nat} {c a b d f1 f2 f3 f4 f5 f6 : Frag} {Fs : List Frag} (h : Goes w0 M (c :: a :: b :: d :: f1 :: f2 :: f3 :: f4 :: f5 :: f6 :: Fs) w) : Goes w0 M (c :: (a ++ (b ++ d)) :: f1 :: f2 :: f3 :: f4 :: f5 :: Fs) w := h.sub (by simp)
theorem str_nil : (str [] == (⟨#[]⟩ : ByteArray)) = true := by rw [show (⟨#[]⟩ : ByteArray) = str [] from rfl, str_beq]; rfl
theorem str_cons {l : List UInt8} (h : l ≠ []) : (str l == (⟨#[]⟩ : ByteArray)) = false := by
  rw [show (⟨#[]⟩ : ByteArray) = str [] from rfl, str_beq]
  exact decide_eq_false h
section
variable {W : World} {pc pj : Nat} {vm vd va : Value} {L : PLex} {p : Prm} {T : Nat} {x : CU} {s : WS} {j : JB} {fj : Frag} {Fs : List Frag} {w : World} {σ : Option SC}
set_option maxHeartbeats 8000000 in
theorem feed_spec {B : Nat} (h9 : T + 2 ≤ 900) (hp : p.right = true) (hd : j.data.length ≤ 40) (hfn : j.fn = 48) (hn : nearO B s.all.length σ) (hSl : SlotOK vm vd va L j.ps fj σ) (hC : Cur W pc vm vd va L p T x s (jF pj j :: fj :: Fs) w) :
    Calls Tryz.prog 48 #[.pointer (some ⟨pc, 0, none⟩), .pointer (some ⟨pj, 0, none⟩)] w (Stepped W pc pj vm vd va L p B T x s j σ Fs) := by
  obtain ⟨sl, fw, fm, fa, fB, hK, hg⟩ := hC
  have hr := right_iff.1 hp
  have hss := str_size j.data
  have hal := hK.al
  have ht := hK.t
  have p1 : ∀ {w' Fs}, Goes W [] Fs w' → Calls Tryz.prog 31 #[.int .i64 16] w' _ := fun h => answer_spec _ 16
  have p2 : ∀ {w' Fs}, Goes W [] Fs w' → Calls Tryz.prog 31 #[.int .i64 14] w' _ := fun h => answer_spec _ 14
  simp only [resV, Tok.none] at p1 p2
  simp only [cuF, jF] at hg
  have hcl : ∃ q, x.closed = q := ⟨_, rfl⟩
  obtain ⟨q, hq⟩ := hcl
  rw [hq] at hg
  cases q
  rotate_left
  · refine enter Tryz.func48 rfl (by simp only [Tryz.ntmps48, List.length_cons, List.length_nil, Nat.reduceAdd, Nat.reduceSub, List.replicate_succ, List.replicate_zero, List.cons_append, List.nil_append]; exact rfl) ?_
    repeat' (first | refine zN ?_ | ((with_reducible refine WQ.nilG ?_); intro w hg) | (refine zB ?_; clear hg; intro b w hg; refine WO.fr ?_) | (refine zW ?_; clear hg; intro w hg; refine WO.fr ?_) | (refine op_pureB hg ?_; clear hg; intro w hg c hc; cases c <;> refine WO.fr ?_))
    exact ret (.cells rfl (by first | with_reducible assumption | ((with_reducible apply Cells.ldn); (first | with_reducible assumption | ((with_reducible apply hg.cells0); with_reducible assumption) | with_reducible exact r1 hg | with_reducible exact r2 hg | with_reducible exact r3 hg | with_reducible exact r4 hg | with_reducible exact r5 hg | with_reducible exact t1 hs | with_reducible exact t2 hs | with_reducible exact t3 hs | with_reducible exact t4 hs); exact rfl) | ((with_reducible apply CellsAt.ldn (hg := hg)); (repeat (first | ((with_reducible apply CellsAt.whole); exact rfl) | ((with_reducible apply CellsAt.here) <;> first | with_reducible assumption | (simp only [List.drop_zero, List.drop_succ_cons, List.take_succ_cons, List.take_zero]; exact rfl) | exact rfl) | with_reducible apply CellsAt.more | with_reducible apply CellsAt.next)); done)) (.tmp rfl .nil)) ⟨16, 0, Tok.none, true, j, fj, σ, s, x, T, rfl, hSl, rfl, by omega, fun h => (by cases h), sl, fw, fm, fa, fB, hK, by simp only [cuF, jF]; rw [hq]; exact hg.drop0⟩
  refine enter Tryz.func48 rfl (by simp only [Tryz.ntmps48, List.length_cons, List.length_nil, Nat.reduceAdd, Nat.reduceSub, List.replicate_succ, List.replicate_zero, List.cons_append, List.nil_append]; exact rfl) ?_
  repeat' (first | refine zN ?_ | ((with_reducible refine WQ.nilG ?_); intro w hg) | (refine zB ?_; clear hg; intro b w hg; refine WO.fr ?_) | (refine zW ?_; clear hg; intro w hg; refine WO.fr ?_) | (refine op_pureB hg ?_; clear hg; intro w hg c hc; cases c <;> refine WO.fr ?_))
  obtain ⟨br, rfl⟩ : ∃ z, z = b := ⟨b, rfl⟩
  rw [← hq] at hg
  have s1 : ∀ {w : World}, (w.heap[pj]? = some (.cells [.int .i64 j.kind, .int .i64 j.n, .string (str j.data), .int .i64 j.steps, .bool j.done, .int .i64 j.at', .int .i64 j.md, .int .i64 j.left, ptrO j.ps, .func (.func j.fn) #[] #[]].toArray 86 (0, 0)) ∧ w.heap[pc]? = some (.cells [vm, vd, va, .int .i64 p.bytes, .int .i64 p.trail, .int .i64 p.marks, .int .i64 p.ahead, .int .i64 p.tickets, .int .i64 p.retries, .int .i64 p.step, .pointer (some ⟨x.pw, 0, none⟩), .bool x.closed, .int .i64 x.na, .int .i64 x.nmd, .int .i64 x.dp, .slice x.sa x.sn x.sc, .pointer (some ⟨x.pm, 0, none⟩), .int .i64 x.ep, .int .i64 x.aa, .int .i64 x.amd, .int .i64 x.al, .int .i64 x.ae, ptrO x.ps].toArray 82 (0, 0))) → w.cell? ⟨pj, 2, none⟩ = some (.string (str j.data)) := fun h => heap_cell h.1 rfl
  have s2 : ∀ {w : World}, (w.heap[pj]? = some (.cells [.int .i64 j.kind, .int .i64 j.n, .string (str j.data), .int .i64 j.steps, .bool j.done, .int .i64 j.at', .int .i64 j.md, .int .i64 j.left, ptrO j.ps, .func (.func j.fn) #[] #[]].toArray 86 (0, 0)) ∧ w.heap[pc]? = some (.cells [vm, vd, va, .int .i64 p.bytes, .int .i64 p.trail, .int .i64 p.marks, .int .i64 p.ahead, .int .i64 p.tickets, .int .i64 p.retries, .int .i64 p.step, .pointer (some ⟨x.pw, 0, none⟩), .bool x.closed, .int .i64 x.na, .int .i64 x.nmd, .int .i64 x.dp, .slice x.sa x.sn x.sc, .pointer (some ⟨x.pm, 0, none⟩), .int .i64 x.ep, .int .i64 x.aa, .int .i64 x.amd, .int .i64 x.al, .int .i64 x.ae, ptrO x.ps].toArray 82 (0, 0))) → w.cell? ⟨pc, 10, none⟩ = some (.pointer (some ⟨x.pw, 0, none⟩)) := fun h => heap_cell h.2 rfl
  refine WC.drawn (fun w => w.heap[pj]? = some (.cells [.int .i64 j.kind, .int .i64 j.n, .string (str j.data), .int .i64 j.steps, .bool j.done, .int .i64 j.at', .int .i64 j.md, .int .i64 j.left, ptrO j.ps, .func (.func j.fn) #[] #[]].toArray 86 (0, 0)) ∧ w.heap[pc]? = some (.cells [vm, vd, va, .int .i64 p.bytes, .int .i64 p.trail, .int .i64 p.marks, .int .i64 p.ahead, .int .i64 p.tickets, .int .i64 p.retries, .int .i64 p.step, .pointer (some ⟨x.pw, 0, none⟩), .bool x.closed, .int .i64 x.na, .int .i64 x.nmd, .int .i64 x.dp, .slice x.sa x.sn x.sc, .pointer (some ⟨x.pm, 0, none⟩), .int .i64 x.ep, .int .i64 x.aa, .int .i64 x.amd, .int .i64 x.al, .int .i64 x.ae, ptrO x.ps].toArray 82 (0, 0))) [] hg ?_
  clear hg
  intro w hg
  have hS : (fun w => w.heap[pj]? = some (.cells [.int .i64 j.kind, .int .i64 j.n, .string (str j.data), .int .i64 j.steps, .bool j.done, .int .i64 j.at', .int .i64 j.md, .int .i64 j.left, ptrO j.ps, .func (.func j.fn) #[] #[]].toArray 86 (0, 0)) ∧ w.heap[pc]? = some (.cells [vm, vd, va, .int .i64 p.bytes, .int .i64 p.trail, .int .i64 p.marks, .int .i64 p.ahead, .int .i64 p.tickets, .int .i64 p.retries, .int .i64 p.step, .pointer (some ⟨x.pw, 0, none⟩), .bool x.closed, .int .i64 x.na, .int .i64 x.nmd, .int .i64 x.dp, .slice x.sa x.sn x.sc, .pointer (some ⟨x.pm, 0, none⟩), .int .i64 x.ep, .int .i64 x.aa, .int .i64 x.amd, .int .i64 x.al, .int .i64 x.ae, ptrO x.ps].toArray 82 (0, 0))) w := ⟨hg.own (pj, .cells [.int .i64 j.kind, .int .i64 j.n, .string (str j.data), .int .i64 j.steps, .bool j.done, .int .i64 j.at', .int .i64 j.md, .int .i64 j.left, ptrO j.ps, .func (.func j.fn) #[] #[]].toArray 86 (0, 0)) (by simp), hg.own (pc, .cells [vm, vd, va, .int .i64 p.bytes, .int .i64 p.trail, .int .i64 p.marks, .int .i64 p.ahead, .int .i64 p.tickets, .int .i64 p.retries, .int .i64 p.step, .pointer (some ⟨x.pw, 0, none⟩), .bool x.closed, .int .i64 x.na, .int .i64 x.nmd, .int .i64 x.dp, .slice x.sa x.sn x.sc, .pointer (some ⟨x.pm, 0, none⟩), .int .i64 x.ep, .int .i64 x.aa, .int .i64 x.amd, .int .i64 x.al, .int .i64 x.ae, ptrO x.ps].toArray 82 (0, 0)) (by simp)⟩
  refine WA.passM 0 hS ?_
  refine WA.passM 1 hS ?_
  refine WA.passM 2 hS ?_
  refine WA.passM 4 hS ?_
  refine WA.passM 5 hS ?_
  refine WA.passM 6 hS ?_
  refine WA.passM 7 hS ?_
  refine WA.passM 3 hS ?_
  refine WA.passM 8 hS ?_
  refine WA.passM 9 hS ?_
  refine WA.only 10 ?_
  have hmake := wMake_spec (j.data.length : Int) hK.w (hg.front 2).owns1 hK.k (by omega)
  rw [← hss] at hmake
  refine op_call hmake ?_
  clear hmake
  rintro _ w ⟨f2, rfl, hF2, hg2⟩
  replace hg := (hg.front 2).callF hg2
  clear hg2 hS
  rw [hss] at hF2 ⊢
  refine ⟨_, rfl, ?_⟩
  refine WO.fr ?_
  have hS : (fun w => w.heap[pj]? = some (.cells [.int .i64 j.kind, .int .i64 j.n, .string (str j.data), .int .i64 j.steps, .bool j.done, .int .i64 j.at', .int .i64 j.md, .int .i64 j.left, ptrO j.ps, .func (.func j.fn) #[] #[]].toArray 86 (0, 0)) ∧ w.heap[pc]? = some (.cells [vm, vd, va, .int .i64 p.bytes, .int .i64 p.trail, .int .i64 p.marks, .int .i64 p.ahead, .int .i64 p.tickets, .int .i64 p.retries, .int .i64 p.step, .pointer (some ⟨x.pw, 0, none⟩), .bool x.closed, .int .i64 x.na, .int .i64 x.nmd, .int .i64 x.dp, .slice x.sa x.sn x.sc, .pointer (some ⟨x.pm, 0, none⟩), .int .i64 x.ep, .int .i64 x.aa, .int .i64 x.amd, .int .i64 x.al, .int .i64 x.ae, ptrO x.ps].toArray 82 (0, 0))) w := ⟨hg.own (pj, .cells [.int .i64 j.kind, .int .i64 j.n, .string (str j.data), .int .i64 j.steps, .bool j.done, .int .i64 j.at', .int .i64 j.md, .int .i64 j.left, ptrO j.ps, .func (.func j.fn) #[] #[]].toArray 86 (0, 0)) (by simp), hg.own (pc, .cells [vm, vd, va, .int .i64 p.bytes, .int .i64 p.trail, .int .i64 p.marks, .int .i64 p.ahead, .int .i64 p.tickets, .int .i64 p.retries, .int .i64 p.step, .pointer (some ⟨x.pw, 0, none⟩), .bool x.closed, .int .i64 x.na, .int .i64 x.nmd, .int .i64 x.dp, .slice x.sa x.sn x.sc, .pointer (some ⟨x.pm, 0, none⟩), .int .i64 x.ep, .int .i64 x.aa, .int .i64 x.amd, .int .i64 x.al, .int .i64 x.ae, ptrO x.ps].toArray 82 (0, 0)) (by simp)⟩
  refine WO.nilA hS ?_
  refine WA.passM 11 hS ?_
  refine WA.nil ?_
  clear hS s1 s2
  cases hfit : s.fits p.bytes j.data.length
  · repeat' (first | refine zN ?_ | ((with_reducible refine WQ.nilG ?_); intro w hg) | (refine zB ?_; clear hg; intro b w hg; refine WO.fr ?_) | (refine zW ?_; clear hg; intro w hg; refine WO.fr ?_) | (refine op_pureB hg ?_; clear hg; intro w hg c hc; cases c <;> refine WO.fr ?_))
    have e : s.make p.bytes p.step j.data.length = s.recl p.step := by
      unfold WS.make
      rw [hfit, if_neg (by decide)]
    rw [e] at hF2
    have h1 := hK.k.h1
    have hne : s.fl ≠ s.low := fun he => by rw [fits_iff.2 (.inr he)] at hfit; exact absurd hfit (by decide)
    exact ret (.cells rfl (by first | with_reducible assumption | ((with_reducible apply Cells.ldn); (first | with_reducible assumption | ((with_reducible apply hg.cells0); with_reducible assumption) | with_reducible exact r1 hg | with_reducible exact r2 hg | with_reducible exact r3 hg | with_reducible exact r4 hg | with_reducible exact r5 hg | with_reducible exact t1 hs | with_reducible exact t2 hs | with_reducible exact t3 hs | with_reducible exact t4 hs); exact rfl) | ((with_reducible apply CellsAt.ldn (hg := hg)); (repeat (first | ((with_reducible apply CellsAt.whole); exact rfl) | ((with_reducible apply CellsAt.here) <;> first | with_reducible assumption | (simp only [List.drop_zero, List.drop_succ_cons, List.take_succ_cons, List.take_zero]; exact rfl) | exact rfl) | with_reducible apply CellsAt.more | with_reducible apply CellsAt.next)); done)) (.tmp rfl .nil)) ⟨0, 0, Tok.none, false, j, fj, σ, s.recl p.step, x, T, rfl, hSl, rfl, by omega, fun _ => ⟨rfl, rfl, rfl, Nat.le_add_right _ _, hn, by
        unfold pot
        rw [if_pos hfn, if_pos hfn]
        simp only [WS.recl, WS.rise]
        omega, ⟨fun h => by rw [hfn] at h; exact absurd h (by decide), fun h => by rw [hfn] at h; exact absurd h (by decide)⟩⟩, sl, f2, fm, fa, fB, ⟨hF2, hK.k.recl _, hK.al, hK.m, hK.ms, hK.mn, hK.b, hK.e, hK.t, hK.l, hK.a⟩, (((((((((hg.front 7).front 7).front 7).front 7).front 7).front 5).front 7).front 7)).drop0⟩
  have e : s.make p.bytes p.step j.data.length = s := by
    unfold WS.make
    rw [hfit, if_pos rfl]
  rw [e] at hF2
  repeat' (first | refine zN ?_ | ((with_reducible refine WQ.nilG ?_); intro w hg) | (refine zB ?_; clear hg; intro b w hg; refine WO.fr ?_) | (refine zW ?_; clear hg; intro w hg; refine WO.fr ?_) | (refine op_pureB hg ?_; clear hg; intro w hg c hc; cases c <;> refine WO.fr ?_))
  have hKW := hK.k
  have hb1 := hKW.b1; have hb2 := hKW.b2; have hs1 := hKW.h1; have hs2 := hKW.h2; have hs3 := hKW.h3
  obtain ⟨pr, pq, n, bl, m, h, fr, fc, rfl, hnb, h1, h2, h3, h4⟩ := hF2
  have s1 : ∀ {w : World}, (w.heap[pj]? = some (.cells [.int .i64 j.kind, .int .i64 j.n, .string (str j.data), .int .i64 j.steps, .bool j.done, .int .i64 j.at', .int .i64 j.md, .int .i64 j.left, ptrO j.ps, .func (.func j.fn) #[] #[]].toArray 86 (0, 0)) ∧ w.heap[pc]? = some (.cells [vm, vd, va, .int .i64 p.bytes, .int .i64 p.trail, .int .i64 p.marks, .int .i64 p.ahead, .int .i64 p.tickets, .int .i64 p.retries, .int .i64 p.step, .pointer (some ⟨x.pw, 0, none⟩), .bool x.closed, .int .i64 x.na, .int .i64 x.nmd, .int .i64 x.dp, .slice x.sa x.sn x.sc, .pointer (some ⟨x.pm, 0, none⟩), .int .i64 x.ep, .int .i64 x.aa, .int .i64 x.amd, .int .i64 x.al, .int .i64 x.ae, ptrO x.ps].toArray 82 (0, 0)) ∧ w.heap[x.pw]? = some (.cells [.pointer (some ⟨pr, 0, none⟩), .pointer (some ⟨pq, 0, none⟩), .int .i64 p.bytes, .int .i64 p.trail, .int .i64 p.marks, .int .i64 p.ahead, .int .i64 p.tickets, .int .i64 p.retries, .int .i64 p.step, .int .i64 (s.low : Nat)].toArray 115 (0, 0))) → w.cell? ⟨pj, 2, none⟩ = some (.string (str j.data)) := fun h => heap_cell h.1 rfl
  have s2 : ∀ {w : World}, (w.heap[pj]? = some (.cells [.int .i64 j.kind, .int .i64 j.n, .string (str j.data), .int .i64 j.steps, .bool j.done, .int .i64 j.at', .int .i64 j.md, .int .i64 j.left, ptrO j.ps, .func (.func j.fn) #[] #[]].toArray 86 (0, 0)) ∧ w.heap[pc]? = some (.cells [vm, vd, va, .int .i64 p.bytes, .int .i64 p.trail, .int .i64 p.marks, .int .i64 p.ahead, .int .i64 p.tickets, .int .i64 p.retries, .int .i64 p.step, .pointer (some ⟨x.pw, 0, none⟩), .bool x.closed, .int .i64 x.na, .int .i64 x.nmd, .int .i64 x.dp, .slice x.sa x.sn x.sc, .pointer (some ⟨x.pm, 0, none⟩), .int .i64 x.ep, .int .i64 x.aa, .int .i64 x.amd, .int .i64 x.al, .int .i64 x.ae, ptrO x.ps].toArray 82 (0, 0)) ∧ w.heap[x.pw]? = some (.cells [.pointer (some ⟨pr, 0, none⟩), .pointer (some ⟨pq, 0, none⟩), .int .i64 p.bytes, .int .i64 p.trail, .int .i64 p.marks, .int .i64 p.ahead, .int .i64 p.tickets, .int .i64 p.retries, .int .i64 p.step, .int .i64 (s.low : Nat)].toArray 115 (0, 0))) → w.cell? ⟨pc, 10, none⟩ = some (.pointer (some ⟨x.pw, 0, none⟩)) := fun h => heap_cell h.2.1 rfl
  have s3 : ∀ {w : World}, (w.heap[pj]? = some (.cells [.int .i64 j.kind, .int .i64 j.n, .string (str j.data), .int .i64 j.steps, .bool j.done, .int .i64 j.at', .int .i64 j.md, .int .i64 j.left, ptrO j.ps, .func (.func j.fn) #[] #[]].toArray 86 (0, 0)) ∧ w.heap[pc]? = some (.cells [vm, vd, va, .int .i64 p.bytes, .int .i64 p.trail, .int .i64 p.marks, .int .i64 p.ahead, .int .i64 p.tickets, .int .i64 p.retries, .int .i64 p.step, .pointer (some ⟨x.pw, 0, none⟩), .bool x.closed, .int .i64 x.na, .int .i64 x.nmd, .int .i64 x.dp, .slice x.sa x.sn x.sc, .pointer (some ⟨x.pm, 0, none⟩), .int .i64 x.ep, .int .i64 x.aa, .int .i64 x.amd, .int .i64 x.al, .int .i64 x.ae, ptrO x.ps].toArray 82 (0, 0)) ∧ w.heap[x.pw]? = some (.cells [.pointer (some ⟨pr, 0, none⟩), .pointer (some ⟨pq, 0, none⟩), .int .i64 p.bytes, .int .i64 p.trail, .int .i64 p.marks, .int .i64 p.ahead, .int .i64 p.tickets, .int .i64 p.retries, .int .i64 p.step, .int .i64 (s.low : Nat)].toArray 115 (0, 0))) → w.cell? ⟨x.pw, 0, none⟩ = some (.pointer (some ⟨pr, 0, none⟩)) := fun h => heap_cell h.2.2 rfl
  replace hg := hg.three
  refine WC.drawn (fun w => w.heap[pj]? = some (.cells [.int .i64 j.kind, .int .i64 j.n, .string (str j.data), .int .i64 j.steps, .bool j.done, .int .i64 j.at', .int .i64 j.md, .int .i64 j.left, ptrO j.ps, .func (.func j.fn) #[] #[]].toArray 86 (0, 0)) ∧ w.heap[pc]? = some (.cells [vm, vd, va, .int .i64 p.bytes, .int .i64 p.trail, .int .i64 p.marks, .int .i64 p.ahead, .int .i64 p.tickets, .int .i64 p.retries, .int .i64 p.step, .pointer (some ⟨x.pw, 0, none⟩), .bool x.closed, .int .i64 x.na, .int .i64 x.nmd, .int .i64 x.dp, .slice x.sa x.sn x.sc, .pointer (some ⟨x.pm, 0, none⟩), .int .i64 x.ep, .int .i64 x.aa, .int .i64 x.amd, .int .i64 x.al, .int .i64 x.ae, ptrO x.ps].toArray 82 (0, 0)) ∧ w.heap[x.pw]? = some (.cells [.pointer (some ⟨pr, 0, none⟩), .pointer (some ⟨pq, 0, none⟩), .int .i64 p.bytes, .int .i64 p.trail, .int .i64 p.marks, .int .i64 p.ahead, .int .i64 p.tickets, .int .i64 p.retries, .int .i64 p.step, .int .i64 (s.low : Nat)].toArray 115 (0, 0))) [] hg ?_
  clear hg
  intro w hg
  have hS : (fun w => w.heap[pj]? = some (.cells [.int .i64 j.kind, .int .i64 j.n, .string (str j.data), .int .i64 j.steps, .bool j.done, .int .i64 j.at', .int .i64 j.md, .int .i64 j.left, ptrO j.ps, .func (.func j.fn) #[] #[]].toArray 86 (0, 0)) ∧ w.heap[pc]? = some (.cells [vm, vd, va, .int .i64 p.bytes, .int .i64 p.trail, .int .i64 p.marks, .int .i64 p.ahead, .int .i64 p.tickets, .int .i64 p.retries, .int .i64 p.step, .pointer (some ⟨x.pw, 0, none⟩), .bool x.closed, .int .i64 x.na, .int .i64 x.nmd, .int .i64 x.dp, .slice x.sa x.sn x.sc, .pointer (some ⟨x.pm, 0, none⟩), .int .i64 x.ep, .int .i64 x.aa, .int .i64 x.amd, .int .i64 x.al, .int .i64 x.ae, ptrO x.ps].toArray 82 (0, 0)) ∧ w.heap[x.pw]? = some (.cells [.pointer (some ⟨pr, 0, none⟩), .pointer (some ⟨pq, 0, none⟩), .int .i64 p.bytes, .int .i64 p.trail, .int .i64 p.marks, .int .i64 p.ahead, .int .i64 p.tickets, .int .i64 p.retries, .int .i64 p.step, .int .i64 (s.low : Nat)].toArray 115 (0, 0))) w := ⟨hg.own (pj, .cells [.int .i64 j.kind, .int .i64 j.n, .string (str j.data), .int .i64 j.steps, .bool j.done, .int .i64 j.at', .int .i64 j.md, .int .i64 j.left, ptrO j.ps, .func (.func j.fn) #[] #[]].toArray 86 (0, 0)) (by simp), hg.own (pc, .cells [vm, vd, va, .int .i64 p.bytes, .int .i64 p.trail, .int .i64 p.marks, .int .i64 p.ahead, .int .i64 p.tickets, .int .i64 p.retries, .int .i64 p.step, .pointer (some ⟨x.pw, 0, none⟩), .bool x.closed, .int .i64 x.na, .int .i64 x.nmd, .int .i64 x.dp, .slice x.sa x.sn x.sc, .pointer (some ⟨x.pm, 0, none⟩), .int .i64 x.ep, .int .i64 x.aa, .int .i64 x.amd, .int .i64 x.al, .int .i64 x.ae, ptrO x.ps].toArray 82 (0, 0)) (by simp), hg.own (x.pw, .cells [.pointer (some ⟨pr, 0, none⟩), .pointer (some ⟨pq, 0, none⟩), .int .i64 p.bytes, .int .i64 p.trail, .int .i64 p.marks, .int .i64 p.ahead, .int .i64 p.tickets, .int .i64 p.retries, .int .i64 p.step, .int .i64 (s.low : Nat)].toArray 115 (0, 0)) (by simp)⟩
  refine WA.passM 0 hS ?_
  refine WA.passM 1 hS ?_
  refine WA.passM 2 hS ?_
  refine WA.passM 7 hS ?_
  refine WA.passM 8 hS ?_
  refine WA.passM 9 hS ?_
  refine WA.passM 10 hS ?_
  refine WA.passM 3 hS ?_
  refine WA.passM 4 hS ?_
  refine WA.passM 5 hS ?_
  refine WA.passM 6 hS ?_
  refine WA.passM 11 hS ?_
  refine WA.only 12 ?_
  have hput := rPut_spec2 j.data h1 (hg.front 1).owns1 h2 (by omega) (by omega) (by omega)
  refine op_call hput ?_
  clear hput
  rintro _ w ⟨bl2, fr2, rfl, h1, h2, hg2⟩
  replace hg := (hg.front 1).callF hg2
  clear hg2 hS
  refine ⟨_, rfl, ?_⟩
  refine WO.fr ?_
  generalize hkk : min j.data.length (n - (s.all.length - s.fl)) = k at h1 h2 hg ⊢
  have hk1 : k ≤ j.data.length := by omega
  have hk2 : (k : Int) ≤ p.bytes - ((s.all.length : Int) - s.fl) := by omega
  have hS : (fun w => w.heap[pj]? = some (.cells [.int .i64 j.kind, .int .i64 j.n, .string (str j.data), .int .i64 j.steps, .bool j.done, .int .i64 j.at', .int .i64 j.md, .int .i64 j.left, ptrO j.ps, .func (.func j.fn) #[] #[]].toArray 86 (0, 0)) ∧ w.heap[pc]? = some (.cells [vm, vd, va, .int .i64 p.bytes, .int .i64 p.trail, .int .i64 p.marks, .int .i64 p.ahead, .int .i64 p.tickets, .int .i64 p.retries, .int .i64 p.step, .pointer (some ⟨x.pw, 0, none⟩), .bool x.closed, .int .i64 x.na, .int .i64 x.nmd, .int .i64 x.dp, .slice x.sa x.sn x.sc, .pointer (some ⟨x.pm, 0, none⟩), .int .i64 x.ep, .int .i64 x.aa, .int .i64 x.amd, .int .i64 x.al, .int .i64 x.ae, ptrO x.ps].toArray 82 (0, 0)) ∧ w.heap[x.pw]? = some (.cells [.pointer (some ⟨pr, 0, none⟩), .pointer (some ⟨pq, 0, none⟩), .int .i64 p.bytes, .int .i64 p.trail, .int .i64 p.marks, .int .i64 p.ahead, .int .i64 p.tickets, .int .i64 p.retries, .int .i64 p.step, .int .i64 (s.low : Nat)].toArray 115 (0, 0))) w := ⟨hg.own (pj, .cells [.int .i64 j.kind, .int .i64 j.n, .string (str j.data), .int .i64 j.steps, .bool j.done, .int .i64 j.at', .int .i64 j.md, .int .i64 j.left, ptrO j.ps, .func (.func j.fn) #[] #[]].toArray 86 (0, 0)) (by simp), hg.own (pc, .cells [vm, vd, va, .int .i64 p.bytes, .int .i64 p.trail, .int .i64 p.marks, .int .i64 p.ahead, .int .i64 p.tickets, .int .i64 p.retries, .int .i64 p.step, .pointer (some ⟨x.pw, 0, none⟩), .bool x.closed, .int .i64 x.na, .int .i64 x.nmd, .int .i64 x.dp, .slice x.sa x.sn x.sc, .pointer (some ⟨x.pm, 0, none⟩), .int .i64 x.ep, .int .i64 x.aa, .int .i64 x.amd, .int .i64 x.al, .int .i64 x.ae, ptrO x.ps].toArray 82 (0, 0)) (by simp), hg.own (x.pw, .cells [.pointer (some ⟨pr, 0, none⟩), .pointer (some ⟨pq, 0, none⟩), .int .i64 p.bytes, .int .i64 p.trail, .int .i64 p.marks, .int .i64 p.ahead, .int .i64 p.tickets, .int .i64 p.retries, .int .i64 p.step, .int .i64 (s.low : Nat)].toArray 115 (0, 0)) (by simp)⟩
  refine WO.nilA hS ?_
  refine WA.passM 13 hS ?_
  refine WA.nil ?_
  clear hS s1 s2 s3
  have hCK : CurOK vm vd va L p (T + 1) x { s with all := s.all ++ j.data.take k } sl ([(x.pw, .cells [.pointer (some ⟨pr, 0, none⟩), .pointer (some ⟨pq, 0, none⟩), .int .i64 p.bytes, .int .i64 p.trail, .int .i64 p.marks, .int .i64 p.ahead, .int .i64 p.tickets, .int .i64 p.retries, .int .i64 p.step, .int .i64 (s.low : Nat)].toArray 115 (0, 0))] ++ (fr2 ++ fc)) fm fa fB := by
    have hu := hK.up (T' := T + 1) (by omega) (by omega)
    refine ⟨⟨pr, pq, n, bl2, m, h, fr2, fc, rfl, hnb, h1, h2, h3, h4⟩, hKW.put _ _ hk2, ?_, hu.m, hu.ms, hu.mn, hu.b, hu.e, hu.t, hu.l, hu.a⟩
    dsimp only
    rw [List.length_append, List.length_take]
    omega
  replace hg := ((((((((((hg.front 9).front 9).front 9).front 9).front 9).front 7).front 6).front 7).front 9).front 9)
  simp only [pull, pullIn] at hg
  by_cases hk0 : k = 0
  · subst hk0
    by_cases hde : j.data = []
    · have hsn : (str j.data == (⟨#[]⟩ : ByteArray)) = true := by rw [hde]; exact str_nil
      repeat' (first | refine zN ?_ | ((with_reducible refine WQ.nilG ?_); intro w hg) | (refine zB ?_; clear hg; intro b w hg; refine WO.fr ?_) | (refine zW ?_; clear hg; intro w hg; refine WO.fr ?_) | (refine op_pureB hg ?_; clear hg; intro w hg c hc; cases c <;> refine WO.fr ?_))
      rw [hsn]
      repeat' (first | refine zN ?_ | ((with_reducible refine WQ.nilG ?_); intro w hg) | (refine zB ?_; clear hg; intro b w hg; refine WO.fr ?_) | (refine zW ?_; clear hg; intro w hg; refine WO.fr ?_) | (refine op_pureB hg ?_; clear hg; intro w hg c hc; cases c <;> refine WO.fr ?_))
      exact ret (.cells rfl (by first | with_reducible assumption | ((with_reducible apply Cells.ldn); (first | with_reducible assumption | ((with_reducible apply hg.cells0); with_reducible assumption) | with_reducible exact r1 hg | with_reducible exact r2 hg | with_reducible exact r3 hg | with_reducible exact r4 hg | with_reducible exact r5 hg | with_reducible exact t1 hs | with_reducible exact t2 hs | with_reducible exact t3 hs | with_reducible exact t4 hs); exact rfl) | ((with_reducible apply CellsAt.ldn (hg := hg)); (repeat (first | ((with_reducible apply CellsAt.whole); exact rfl) | ((with_reducible apply CellsAt.here) <;> first | with_reducible assumption | (simp only [List.drop_zero, List.drop_succ_cons, List.take_succ_cons, List.take_zero]; exact rfl) | exact rfl) | with_reducible apply CellsAt.more | with_reducible apply CellsAt.next)); done)) (.tmp rfl .nil)) ⟨0, 0, Tok.none, true, j, fj, σ, { s with all := s.all ++ j.data.take 0 }, x, T + 1, rfl, hSl, rfl, by omega, fun h => (by cases h), sl, _, fm, fa, fB, hCK, ((((((((((hg.front 9).front 9).front 9).front 9).front 9).front 9).front 9).front 9).front 9)).reW⟩
    · have hsn := str_cons hde
      repeat' (first | refine zN ?_ | ((with_reducible refine WQ.nilG ?_); intro w hg) | (refine zB ?_; clear hg; intro b w hg; refine WO.fr ?_) | (refine zW ?_; clear hg; intro w hg; refine WO.fr ?_) | (refine op_pureB hg ?_; clear hg; intro w hg c hc; cases c <;> refine WO.fr ?_))
      rw [hsn]
      repeat' (first | refine zN ?_ | ((with_reducible refine WQ.nilG ?_); intro w hg) | (refine zB ?_; clear hg; intro b w hg; refine WO.fr ?_) | (refine zW ?_; clear hg; intro w hg; refine WO.fr ?_) | (refine op_pureB hg ?_; clear hg; intro w hg c hc; cases c <;> refine WO.fr ?_))
      exact ret (.cells rfl (by first | with_reducible assumption | ((with_reducible apply Cells.ldn); (first | with_reducible assumption | ((with_reducible apply hg.cells0); with_reducible assumption) | with_reducible exact r1 hg | with_reducible exact r2 hg | with_reducible exact r3 hg | with_reducible exact r4 hg | with_reducible exact r5 hg | with_reducible exact t1 hs | with_reducible exact t2 hs | with_reducible exact t3 hs | with_reducible exact t4 hs); exact rfl) | ((with_reducible apply CellsAt.ldn (hg := hg)); (repeat (first | ((with_reducible apply CellsAt.whole); exact rfl) | ((with_reducible apply CellsAt.here) <;> first | with_reducible assumption | (simp only [List.drop_zero, List.drop_succ_cons, List.take_succ_cons, List.take_zero]; exact rfl) | exact rfl) | with_reducible apply CellsAt.more | with_reducible apply CellsAt.next)); done)) (.tmp rfl .nil)) ⟨14, 0, Tok.none, true, j, fj, σ, { s with all := s.all ++ j.data.take 0 }, x, T + 1, rfl, hSl, rfl, by omega, fun h => (by cases h), sl, _, fm, fa, fB, hCK, ((((((((((hg.front 9).front 9).front 9).front 9).front 9).front 9).front 9).front 9).front 9)).reW⟩
  · have hk3 : 0 < k := by omega
    repeat' (first | refine zN ?_ | ((with_reducible refine WQ.nilG ?_); intro w hg) | (refine zB ?_; clear hg; intro b w hg; refine WO.fr ?_) | (refine zW ?_; clear hg; intro w hg; refine WO.fr ?_) | (refine op_pureB hg ?_; clear hg; intro w hg c hc; cases c <;> refine WO.fr ?_))
    refine op_call (changed_spec (by omega) ⟨sl, _, fm, fa, fB, hCK, ((((((((((hg.front 9).front 9).front 9).front 9).front 9).front 9).front 9).front 9).front 9)).reW2⟩) ?_
    clear hg hCK hK hKW h1 h2 h3 h4
    rintro _ w ⟨s2, ⟨v, rfl⟩, hs1, hs2, sl, fw, fm, fa, fB, hK, hg⟩
    replace hg := ((((((((hg.front 6).front 6).front 6).front 6).front 6).front 6).front 6).front 7)
    simp only [pull, pullIn, cuF, jF] at hg
    refine ⟨_, rfl, ?_⟩
    refine WO.fr ?_
    repeat' (first | refine zN ?_ | ((with_reducible refine WQ.nilG ?_); intro w hg) | (refine zB ?_; clear hg; intro b w hg; refine WO.fr ?_) | (refine zW ?_; clear hg; intro w hg; refine WO.fr ?_) | (refine op_pureB hg ?_; clear hg; intro w hg c hc; cases c <;> refine WO.fr ?_))
    exact ret (.cells rfl (by first | with_reducible assumption | ((with_reducible apply Cells.ldn); (first | with_reducible assumption | ((with_reducible apply hg.cells0); with_reducible assumption) | with_reducible exact r1 hg | with_reducible exact r2 hg | with_reducible exact r3 hg | with_reducible exact r4 hg | with_reducible exact r5 hg | with_reducible exact t1 hs | with_reducible exact t2 hs | with_reducible exact t3 hs | with_reducible exact t4 hs); exact rfl) | ((with_reducible apply CellsAt.ldn (hg := hg)); (repeat (first | ((with_reducible apply CellsAt.whole); exact rfl) | ((with_reducible apply CellsAt.here) <;> first | with_reducible assumption | (simp only [List.drop_zero, List.drop_succ_cons, List.take_succ_cons, List.take_zero]; exact rfl) | exact rfl) | with_reducible apply CellsAt.more | with_reducible apply CellsAt.next)); done)) (.tmp rfl .nil)) ⟨0, k, Tok.none, true, j, fj, σ, s2, _, T + 1 + 1, rfl, hSl, rfl, by omega, fun h => (by cases h), sl, fw, fm, fa, fB, hK, hg.drop0⟩
end
end Go.Proofs.YtkdidefghbeabaaGreat
namespace Go.Proofs.YtkdidefghbeabaaGreat
open Go Go.RowKit
set_option maxRecDepth 10000
set_option linter.unusedSimpArgs false
set_option linter.unusedVariables false
section
variable {W : World} {pc pj : Nat} {vm vd va : Value} {L : PLex} {p : Prm} {T : Nat} {x : CU} {s : WS} {j : JB} {fj : Frag} {Fs : List Frag} {w : World} {σ : Option SC}
set_option maxHeartbeats 4000000 in
theorem shut_spec {B : Nat} (h9 : T + 2 ≤ 900) (hSl : SlotOK vm vd va L j.ps fj σ) (hC : Cur W pc vm vd va L p T x s (jF pj j :: fj :: Fs) w) :
    Calls Tryz.prog 49 #[.pointer (some ⟨pc, 0, none⟩), .pointer (some ⟨pj, 0, none⟩)] w (Stepped W pc pj vm vd va L p B T x s j σ Fs) := by
  obtain ⟨sl, fw, fm, fa, fB, hK, hg⟩ := hC
  have p1 : ∀ {w' Fs}, Goes W [] Fs w' → Calls Tryz.prog 31 #[.int .i64 16] w' _ := fun h => answer_spec _ 16
  simp only [resV, Tok.none] at p1
  simp only [cuF, jF] at hg
  have hcl : ∃ q, x.closed = q := ⟨_, rfl⟩
  obtain ⟨q, hq⟩ := hcl
  rw [hq] at hg
  cases q
  rotate_left
  · refine enter Tryz.func49 rfl (by simp only [Tryz.ntmps49, List.length_cons, List.length_nil, Nat.reduceAdd, Nat.reduceSub, List.replicate_succ, List.replicate_zero, List.cons_append, List.nil_append]; exact rfl) ?_
    repeat' (first | refine zN ?_ | ((with_reducible refine WQ.nilG ?_); intro w hg) | (refine zB ?_; clear hg; intro b w hg; refine WO.fr ?_) | (refine zW ?_; clear hg; intro w hg; refine WO.fr ?_) | (refine op_pureB hg ?_; clear hg; intro w hg c hc; cases c <;> refine WO.fr ?_))
    exact ret (.cells rfl (by first | with_reducible assumption | ((with_reducible apply Cells.ldn); (first | with_reducible assumption | ((with_reducible apply hg.cells0); with_reducible assumption) | with_reducible exact r1 hg | with_reducible exact r2 hg | with_reducible exact r3 hg | with_reducible exact r4 hg | with_reducible exact r5 hg | with_reducible exact t1 hs | with_reducible exact t2 hs | with_reducible exact t3 hs | with_reducible exact t4 hs); exact rfl) | ((with_reducible apply CellsAt.ldn (hg := hg)); (repeat (first | ((with_reducible apply CellsAt.whole); exact rfl) | ((with_reducible apply CellsAt.here) <;> first | with_reducible assumption | (simp only [List.drop_zero, List.drop_succ_cons, List.take_succ_cons, List.take_zero]; exact rfl) | exact rfl) | with_reducible apply CellsAt.more | with_reducible apply CellsAt.next)); done)) (.tmp rfl .nil)) ⟨16, 0, Tok.none, true, j, fj, σ, s, x, T, rfl, hSl, rfl, by omega, fun h => (by cases h), sl, fw, fm, fa, fB, hK, by simp only [cuF, jF]; rw [hq]; exact hg.drop0⟩
  refine enter Tryz.func49 rfl (by simp only [Tryz.ntmps49, List.length_cons, List.length_nil, Nat.reduceAdd, Nat.reduceSub, List.replicate_succ, List.replicate_zero, List.cons_append, List.nil_append]; exact rfl) ?_
  repeat' (first | refine zN ?_ | ((with_reducible refine WQ.nilG ?_); intro w hg) | (refine zB ?_; clear hg; intro b w hg; refine WO.fr ?_) | (refine zW ?_; clear hg; intro w hg; refine WO.fr ?_) | (refine op_pureB hg ?_; clear hg; intro w hg c hc; cases c <;> refine WO.fr ?_))
  refine op_call (changed_spec (x := { x with closed := true }) (by omega) ⟨sl, fw, fm, fa, fB, ⟨hK.w, hK.k, hK.al, hK.m, hK.ms, hK.mn, hK.b, hK.e, hK.t, hK.l, hK.a⟩, (((((((hg.front 7).front 7).front 7).front 7).front 7).front 7).front 7)⟩) ?_
  clear hg hK
  rintro _ w ⟨s2, ⟨v, rfl⟩, hs1, hs2, sl, fw, fm, fa, fB, hK, hg⟩
  replace hg := ((((((((hg.front 6).front 6).front 6).front 6).front 6).front 6).front 6).front 7)
  simp only [pull, pullIn, cuF, jF] at hg
  refine ⟨_, rfl, ?_⟩
  refine WO.fr ?_
  repeat' (first | refine zN ?_ | ((with_reducible refine WQ.nilG ?_); intro w hg) | (refine zB ?_; clear hg; intro b w hg; refine WO.fr ?_) | (refine zW ?_; clear hg; intro w hg; refine WO.fr ?_) | (refine op_pureB hg ?_; clear hg; intro w hg c hc; cases c <;> refine WO.fr ?_))
  exact ret (.cells rfl (by first | with_reducible assumption | ((with_reducible apply Cells.ldn); (first | with_reducible assumption | ((with_reducible apply hg.cells0); with_reducible assumption) | with_reducible exact r1 hg | with_reducible exact r2 hg | with_reducible exact r3 hg | with_reducible exact r4 hg | with_reducible exact r5 hg | with_reducible exact t1 hs | with_reducible exact t2 hs | with_reducible exact t3 hs | with_reducible exact t4 hs); exact rfl) | ((with_reducible apply CellsAt.ldn (hg := hg)); (repeat (first | ((with_reducible apply CellsAt.whole); exact rfl) | ((with_reducible apply CellsAt.here) <;> first | with_reducible assumption | (simp only [List.drop_zero, List.drop_succ_cons, List.take_succ_cons, List.take_zero]; exact rfl) | exact rfl) | with_reducible apply CellsAt.more | with_reducible apply CellsAt.next)); done)) (.tmp rfl .nil)) ⟨0, 0, Tok.none, true, j, fj, σ, s2, _, T + 1, rfl, hSl, rfl, by omega, fun h => (by cases h), sl, fw, fm, fa, fB, hK, hg.drop0⟩
set_option maxHeartbeats 4000000 in
theorem pushBack_spec {B : Nat} (h9 : T + 2 ≤ 900) (hSl : SlotOK vm vd va L j.ps fj σ) (hC : Cur W pc vm vd va L p T x s (jF pj j :: fj :: Fs) w) :
    Calls Tryz.prog 52 #[.pointer (some ⟨pc, 0, none⟩), .pointer (some ⟨pj, 0, none⟩)] w (Stepped W pc pj vm vd va L p B T x s j σ Fs) := by
  obtain ⟨sl, fw, fm, fa, fB, hK, hg⟩ := hC
  have p1 : ∀ {w' Fs}, Goes W [] Fs w' → Calls Tryz.prog 31 #[.int .i64 13] w' _ := fun h => answer_spec _ 13
  simp only [resV, Tok.none] at p1
  simp only [cuF, jF] at hg
  refine enter Tryz.func52 rfl (by simp only [Tryz.ntmps52, List.length_cons, List.length_nil, Nat.reduceAdd, Nat.reduceSub, List.replicate_succ, List.replicate_zero, List.cons_append, List.nil_append]; exact rfl) ?_
  repeat' (first | refine zN ?_ | ((with_reducible refine WQ.nilG ?_); intro w hg) | (refine zB ?_; clear hg; intro b w hg; refine WO.fr ?_) | (refine zW ?_; clear hg; intro w hg; refine WO.fr ?_) | (refine op_pureB hg ?_; clear hg; intro w hg c hc; cases c <;> refine WO.fr ?_))
  refine op_call (trPop_spec hK.b (hg.front 5).own0) ?_
  rintro _ w ⟨⟨v, at1, md1, q, rfl, hT'⟩, hg2⟩
  replace hg := hg.call00 hg2
  clear hg2
  obtain ⟨a, n, c, rfl⟩ := hT'.slice
  refine ⟨_, rfl, ?_⟩
  refine WO.fr ?_
  cases q
  · repeat' (first | refine zN ?_ | ((with_reducible refine WQ.nilG ?_); intro w hg) | (refine zB ?_; clear hg; intro b w hg; refine WO.fr ?_) | (refine zW ?_; clear hg; intro w hg; refine WO.fr ?_) | (refine op_pureB hg ?_; clear hg; intro w hg c hc; cases c <;> refine WO.fr ?_))
    exact ret (.cells rfl (by first | with_reducible assumption | ((with_reducible apply Cells.ldn); (first | with_reducible assumption | ((with_reducible apply hg.cells0); with_reducible assumption) | with_reducible exact r1 hg | with_reducible exact r2 hg | with_reducible exact r3 hg | with_reducible exact r4 hg | with_reducible exact r5 hg | with_reducible exact t1 hs | with_reducible exact t2 hs | with_reducible exact t3 hs | with_reducible exact t4 hs); exact rfl) | ((with_reducible apply CellsAt.ldn (hg := hg)); (repeat (first | ((with_reducible apply CellsAt.whole); exact rfl) | ((with_reducible apply CellsAt.here) <;> first | with_reducible assumption | (simp only [List.drop_zero, List.drop_succ_cons, List.take_succ_cons, List.take_zero]; exact rfl) | exact rfl) | with_reducible apply CellsAt.more | with_reducible apply CellsAt.next)); done)) (.tmp rfl .nil)) ⟨13, 0, Tok.none, true, j, fj, σ, s, x, T, rfl, hSl, rfl, by omega, fun h => (by cases h), sl, fw, fm, fa, fB, hK, hg.drop0.drop0.drop0⟩
  repeat' (first | refine zN ?_ | ((with_reducible refine WQ.nilG ?_); intro w hg) | (refine zB ?_; clear hg; intro b w hg; refine WO.fr ?_) | (refine zW ?_; clear hg; intro w hg; refine WO.fr ?_) | (refine op_pureB hg ?_; clear hg; intro w hg c hc; cases c <;> refine WO.fr ?_))
  replace hg := hg.drop0.drop0
  refine op_call (changed_spec (x := { x with na := at1, nmd := md1, sa := a, sn := n, sc := c }) (by omega) ⟨sl, fw, fm, fa, fB, ⟨hK.w, hK.k, hK.al, hK.m, hK.ms, hK.mn, hT', hK.e, hK.t, hK.l, hK.a⟩, (((((((hg.front 7).front 7).front 7).front 7).front 7).front 7).front 7)⟩) ?_
  clear hg hK
  rintro _ w ⟨s2, ⟨v, rfl⟩, hs1, hs2, sl, fw, fm, fa, fB, hK, hg⟩
  replace hg := ((((((((hg.front 6).front 6).front 6).front 6).front 6).front 6).front 6).front 7)
  simp only [pull, pullIn, cuF, jF] at hg
  refine ⟨_, rfl, ?_⟩
  refine WO.fr ?_
  repeat' (first | refine zN ?_ | ((with_reducible refine WQ.nilG ?_); intro w hg) | (refine zB ?_; clear hg; intro b w hg; refine WO.fr ?_) | (refine zW ?_; clear hg; intro w hg; refine WO.fr ?_) | (refine op_pureB hg ?_; clear hg; intro w hg c hc; cases c <;> refine WO.fr ?_))
  exact ret (.cells rfl (by first | with_reducible assumption | ((with_reducible apply Cells.ldn); (first | with_reducible assumption | ((with_reducible apply hg.cells0); with_reducible assumption) | with_reducible exact r1 hg | with_reducible exact r2 hg | with_reducible exact r3 hg | with_reducible exact r4 hg | with_reducible exact r5 hg | with_reducible exact t1 hs | with_reducible exact t2 hs | with_reducible exact t3 hs | with_reducible exact t4 hs); exact rfl) | ((with_reducible apply CellsAt.ldn (hg := hg)); (repeat (first | ((with_reducible apply CellsAt.whole); exact rfl) | ((with_reducible apply CellsAt.here) <;> first | with_reducible assumption | (simp only [List.drop_zero, List.drop_succ_cons, List.take_succ_cons, List.take_zero]; exact rfl) | exact rfl) | with_reducible apply CellsAt.more | with_reducible apply CellsAt.next)); done)) (.tmp rfl .nil)) ⟨0, 0, Tok.none, true, j, fj, σ, s2, _, T + 1, rfl, hSl, rfl, by omega, fun h => (by cases h), sl, fw, fm, fa, fB, hK, hg.drop0⟩
set_option maxHeartbeats 4000000 in
theorem mark_spec {B : Nat} (h9 : T + 2 ≤ 900) (hSl : SlotOK vm vd va L j.ps fj σ) (hC : Cur W pc vm vd va L p T x s (jF pj j :: fj :: Fs) w) :
    Calls Tryz.prog 53 #[.pointer (some ⟨pc, 0, none⟩), .pointer (some ⟨pj, 0, none⟩)] w (Stepped W pc pj vm vd va L p B T x s j σ Fs) := by
  obtain ⟨sl, fw, fm, fa, fB, hK, hg⟩ := hC
  simp only [cuF, jF] at hg
  have s1 : ∀ {w : World}, (w.heap[pj]? = some (.cells [.int .i64 j.kind, .int .i64 j.n, .string (str j.data), .int .i64 j.steps, .bool j.done, .int .i64 j.at', .int .i64 j.md, .int .i64 j.left, ptrO j.ps, .func (.func j.fn) #[] #[]].toArray 86 (0, 0)) ∧ w.heap[pc]? = some (.cells [vm, vd, va, .int .i64 p.bytes, .int .i64 p.trail, .int .i64 p.marks, .int .i64 p.ahead, .int .i64 p.tickets, .int .i64 p.retries, .int .i64 p.step, .pointer (some ⟨x.pw, 0, none⟩), .bool x.closed, .int .i64 x.na, .int .i64 x.nmd, .int .i64 x.dp, .slice x.sa x.sn x.sc, .pointer (some ⟨x.pm, 0, none⟩), .int .i64 x.ep, .int .i64 x.aa, .int .i64 x.amd, .int .i64 x.al, .int .i64 x.ae, ptrO x.ps].toArray 82 (0, 0))) → w.cell? ⟨pc, 16, none⟩ = some (.pointer (some ⟨x.pm, 0, none⟩)) := fun h => heap_cell h.2 rfl
  have t1 : ∀ {w : World}, (w.heap[pj]? = some (.cells [.int .i64 j.kind, .int .i64 j.n, .string (str j.data), .int .i64 j.steps, .bool j.done, .int .i64 j.at', .int .i64 j.md, .int .i64 j.left, ptrO j.ps, .func (.func j.fn) #[] #[]].toArray 86 (0, 0)) ∧ w.heap[pc]? = some (.cells [vm, vd, va, .int .i64 p.bytes, .int .i64 p.trail, .int .i64 p.marks, .int .i64 p.ahead, .int .i64 p.tickets, .int .i64 p.retries, .int .i64 p.step, .pointer (some ⟨x.pw, 0, none⟩), .bool x.closed, .int .i64 x.na, .int .i64 x.nmd, .int .i64 x.dp, .slice x.sa x.sn x.sc, .pointer (some ⟨x.pm, 0, none⟩), .int .i64 x.ep, .int .i64 x.aa, .int .i64 x.amd, .int .i64 x.al, .int .i64 x.ae, ptrO x.ps].toArray 82 (0, 0))) → Cells w ⟨pc, 12, none⟩ [.int .i64 x.na, .int .i64 x.nmd, .int .i64 x.dp, .slice x.sa x.sn x.sc] := fun h => heap_cells h.2 rfl
  refine enter Tryz.func53 rfl (by simp only [Tryz.ntmps53, List.length_cons, List.length_nil, Nat.reduceAdd, Nat.reduceSub, List.replicate_succ, List.replicate_zero, List.cons_append, List.nil_append]; exact rfl) ?_
  repeat' (first | refine zN ?_ | ((with_reducible refine WQ.nilG ?_); intro w hg) | (refine zB ?_; clear hg; intro b w hg; refine WO.fr ?_) | (refine zW ?_; clear hg; intro w hg; refine WO.fr ?_) | (refine op_pureB hg ?_; clear hg; intro w hg c hc; cases c <;> refine WO.fr ?_))
  refine WC.drawn (fun w => w.heap[pj]? = some (.cells [.int .i64 j.kind, .int .i64 j.n, .string (str j.data), .int .i64 j.steps, .bool j.done, .int .i64 j.at', .int .i64 j.md, .int .i64 j.left, ptrO j.ps, .func (.func j.fn) #[] #[]].toArray 86 (0, 0)) ∧ w.heap[pc]? = some (.cells [vm, vd, va, .int .i64 p.bytes, .int .i64 p.trail, .int .i64 p.marks, .int .i64 p.ahead, .int .i64 p.tickets, .int .i64 p.retries, .int .i64 p.step, .pointer (some ⟨x.pw, 0, none⟩), .bool x.closed, .int .i64 x.na, .int .i64 x.nmd, .int .i64 x.dp, .slice x.sa x.sn x.sc, .pointer (some ⟨x.pm, 0, none⟩), .int .i64 x.ep, .int .i64 x.aa, .int .i64 x.amd, .int .i64 x.al, .int .i64 x.ae, ptrO x.ps].toArray 82 (0, 0))) [] hg ?_
  clear hg
  intro w hg
  have hS : (fun w => w.heap[pj]? = some (.cells [.int .i64 j.kind, .int .i64 j.n, .string (str j.data), .int .i64 j.steps, .bool j.done, .int .i64 j.at', .int .i64 j.md, .int .i64 j.left, ptrO j.ps, .func (.func j.fn) #[] #[]].toArray 86 (0, 0)) ∧ w.heap[pc]? = some (.cells [vm, vd, va, .int .i64 p.bytes, .int .i64 p.trail, .int .i64 p.marks, .int .i64 p.ahead, .int .i64 p.tickets, .int .i64 p.retries, .int .i64 p.step, .pointer (some ⟨x.pw, 0, none⟩), .bool x.closed, .int .i64 x.na, .int .i64 x.nmd, .int .i64 x.dp, .slice x.sa x.sn x.sc, .pointer (some ⟨x.pm, 0, none⟩), .int .i64 x.ep, .int .i64 x.aa, .int .i64 x.amd, .int .i64 x.al, .int .i64 x.ae, ptrO x.ps].toArray 82 (0, 0))) w := ⟨hg.own (pj, .cells [.int .i64 j.kind, .int .i64 j.n, .string (str j.data), .int .i64 j.steps, .bool j.done, .int .i64 j.at', .int .i64 j.md, .int .i64 j.left, ptrO j.ps, .func (.func j.fn) #[] #[]].toArray 86 (0, 0)) (by simp), hg.own (pc, .cells [vm, vd, va, .int .i64 p.bytes, .int .i64 p.trail, .int .i64 p.marks, .int .i64 p.ahead, .int .i64 p.tickets, .int .i64 p.retries, .int .i64 p.step, .pointer (some ⟨x.pw, 0, none⟩), .bool x.closed, .int .i64 x.na, .int .i64 x.nmd, .int .i64 x.dp, .slice x.sa x.sn x.sc, .pointer (some ⟨x.pm, 0, none⟩), .int .i64 x.ep, .int .i64 x.aa, .int .i64 x.amd, .int .i64 x.al, .int .i64 x.ae, ptrO x.ps].toArray 82 (0, 0)) (by simp)⟩
  refine WA.passM 0 hS ?_
  refine WA.passM 1 hS ?_
  refine WA.passM 2 hS ?_
  refine WA.passM 4 hS ?_
  refine WA.passM 5 hS ?_
  refine WA.passM 6 hS ?_
  refine WA.passM 8 hS ?_
  refine WA.passM 9 hS ?_
  refine WA.passM 10 hS ?_
  refine WA.passM 3 hS ?_
  refine WA.passM 7 hS ?_
  refine WA.passM 11 hS ?_
  refine WA.only 12 ?_
  refine op_call (slow_spec x.na x.nmd hK.b (hg.front 5).own0) ?_
  rintro _ w ⟨⟨n1, rfl⟩, hg2⟩
  replace hg := hg.call00 hg2
  clear hg2 hS
  refine ⟨_, rfl, ?_⟩
  refine WO.fr ?_
  have hS : (fun w => w.heap[pj]? = some (.cells [.int .i64 j.kind, .int .i64 j.n, .string (str j.data), .int .i64 j.steps, .bool j.done, .int .i64 j.at', .int .i64 j.md, .int .i64 j.left, ptrO j.ps, .func (.func j.fn) #[] #[]].toArray 86 (0, 0)) ∧ w.heap[pc]? = some (.cells [vm, vd, va, .int .i64 p.bytes, .int .i64 p.trail, .int .i64 p.marks, .int .i64 p.ahead, .int .i64 p.tickets, .int .i64 p.retries, .int .i64 p.step, .pointer (some ⟨x.pw, 0, none⟩), .bool x.closed, .int .i64 x.na, .int .i64 x.nmd, .int .i64 x.dp, .slice x.sa x.sn x.sc, .pointer (some ⟨x.pm, 0, none⟩), .int .i64 x.ep, .int .i64 x.aa, .int .i64 x.amd, .int .i64 x.al, .int .i64 x.ae, ptrO x.ps].toArray 82 (0, 0))) w := ⟨hg.own (pj, .cells [.int .i64 j.kind, .int .i64 j.n, .string (str j.data), .int .i64 j.steps, .bool j.done, .int .i64 j.at', .int .i64 j.md, .int .i64 j.left, ptrO j.ps, .func (.func j.fn) #[] #[]].toArray 86 (0, 0)) (by simp), hg.own (pc, .cells [vm, vd, va, .int .i64 p.bytes, .int .i64 p.trail, .int .i64 p.marks, .int .i64 p.ahead, .int .i64 p.tickets, .int .i64 p.retries, .int .i64 p.step, .pointer (some ⟨x.pw, 0, none⟩), .bool x.closed, .int .i64 x.na, .int .i64 x.nmd, .int .i64 x.dp, .slice x.sa x.sn x.sc, .pointer (some ⟨x.pm, 0, none⟩), .int .i64 x.ep, .int .i64 x.aa, .int .i64 x.amd, .int .i64 x.al, .int .i64 x.ae, ptrO x.ps].toArray 82 (0, 0)) (by simp)⟩
  refine WO.nilA hS ?_
  refine WA.only 13 ?_
  refine op_call (mSet_spec x.na x.nmd x.dp n1 x.sa x.sn x.sc (by have := hK.t; omega) hK.mn.2 hK.m hK.ms hK.b (hg.front 3)) ?_
  rintro _ w ⟨k, er, sl', fm', rfl, hM', hl', hms', hg2⟩
  clear hg hS
  have hg := hg2
  clear hg2
  refine ⟨_, rfl, ?_⟩
  refine WO.fr ?_
  replace hg := ((((((((hg.front 7).front 7).front 7).front 7).front 4).front 7).front 7).front 7)
  simp only [pull, pullIn] at hg
  have hS : (fun w => w.heap[pj]? = some (.cells [.int .i64 j.kind, .int .i64 j.n, .string (str j.data), .int .i64 j.steps, .bool j.done, .int .i64 j.at', .int .i64 j.md, .int .i64 j.left, ptrO j.ps, .func (.func j.fn) #[] #[]].toArray 86 (0, 0)) ∧ w.heap[pc]? = some (.cells [vm, vd, va, .int .i64 p.bytes, .int .i64 p.trail, .int .i64 p.marks, .int .i64 p.ahead, .int .i64 p.tickets, .int .i64 p.retries, .int .i64 p.step, .pointer (some ⟨x.pw, 0, none⟩), .bool x.closed, .int .i64 x.na, .int .i64 x.nmd, .int .i64 x.dp, .slice x.sa x.sn x.sc, .pointer (some ⟨x.pm, 0, none⟩), .int .i64 x.ep, .int .i64 x.aa, .int .i64 x.amd, .int .i64 x.al, .int .i64 x.ae, ptrO x.ps].toArray 82 (0, 0))) w := ⟨hg.own (pj, .cells [.int .i64 j.kind, .int .i64 j.n, .string (str j.data), .int .i64 j.steps, .bool j.done, .int .i64 j.at', .int .i64 j.md, .int .i64 j.left, ptrO j.ps, .func (.func j.fn) #[] #[]].toArray 86 (0, 0)) (by simp), hg.own (pc, .cells [vm, vd, va, .int .i64 p.bytes, .int .i64 p.trail, .int .i64 p.marks, .int .i64 p.ahead, .int .i64 p.tickets, .int .i64 p.retries, .int .i64 p.step, .pointer (some ⟨x.pw, 0, none⟩), .bool x.closed, .int .i64 x.na, .int .i64 x.nmd, .int .i64 x.dp, .slice x.sa x.sn x.sc, .pointer (some ⟨x.pm, 0, none⟩), .int .i64 x.ep, .int .i64 x.aa, .int .i64 x.amd, .int .i64 x.al, .int .i64 x.ae, ptrO x.ps].toArray 82 (0, 0)) (by simp)⟩
  refine WO.nilA hS ?_
  refine WA.passM 14 hS ?_
  refine WA.passM 15 hS ?_
  refine WA.passM 16 hS ?_
  refine WA.passM 17 hS ?_
  refine WA.passM 18 hS ?_
  refine WA.nil ?_
  clear hS s1 t1
  repeat' (first | refine zN ?_ | ((with_reducible refine WQ.nilG ?_); intro w hg) | (refine zB ?_; clear hg; intro b w hg; refine WO.fr ?_) | (refine zW ?_; clear hg; intro w hg; refine WO.fr ?_) | (refine op_pureB hg ?_; clear hg; intro w hg c hc; cases c <;> refine WO.fr ?_))
  exact ret (.cells rfl (by first | with_reducible assumption | ((with_reducible apply Cells.ldn); (first | with_reducible assumption | ((with_reducible apply hg.cells0); with_reducible assumption) | with_reducible exact r1 hg | with_reducible exact r2 hg | with_reducible exact r3 hg | with_reducible exact r4 hg | with_reducible exact r5 hg | with_reducible exact t1 hs | with_reducible exact t2 hs | with_reducible exact t3 hs | with_reducible exact t4 hs); exact rfl) | ((with_reducible apply CellsAt.ldn (hg := hg)); (repeat (first | ((with_reducible apply CellsAt.whole); exact rfl) | ((with_reducible apply CellsAt.here) <;> first | with_reducible assumption | (simp only [List.drop_zero, List.drop_succ_cons, List.take_succ_cons, List.take_zero]; exact rfl) | exact rfl) | with_reducible apply CellsAt.more | with_reducible apply CellsAt.next)); done)) (.tmp rfl .nil)) ⟨er, k, Tok.none, true, j, fj, σ, s, x, T, rfl, hSl, rfl, by omega, fun h => (by cases h), sl', fw, fm', fa, fB, ⟨hK.w, hK.k, hK.al, hM', hms', by rw [hl']; exact hK.mn, hK.b, hK.e, hK.t, hK.l, hK.a⟩, hg.drop0⟩
set_option maxHeartbeats 4000000 in
theorem release_spec {B : Nat} (h9 : T + 2 ≤ 900) (hSl : SlotOK vm vd va L j.ps fj σ) (hC : Cur W pc vm vd va L p T x s (jF pj j :: fj :: Fs) w) :
    Calls Tryz.prog 55 #[.pointer (some ⟨pc, 0, none⟩), .pointer (some ⟨pj, 0, none⟩)] w (Stepped W pc pj vm vd va L p B T x s j σ Fs) := by
  obtain ⟨sl, fw, fm, fa, fB, hK, hg⟩ := hC
  simp only [cuF, jF] at hg
  have s1 : ∀ {w : World}, (w.heap[pj]? = some (.cells [.int .i64 j.kind, .int .i64 j.n, .string (str j.data), .int .i64 j.steps, .bool j.done, .int .i64 j.at', .int .i64 j.md, .int .i64 j.left, ptrO j.ps, .func (.func j.fn) #[] #[]].toArray 86 (0, 0)) ∧ w.heap[pc]? = some (.cells [vm, vd, va, .int .i64 p.bytes, .int .i64 p.trail, .int .i64 p.marks, .int .i64 p.ahead, .int .i64 p.tickets, .int .i64 p.retries, .int .i64 p.step, .pointer (some ⟨x.pw, 0, none⟩), .bool x.closed, .int .i64 x.na, .int .i64 x.nmd, .int .i64 x.dp, .slice x.sa x.sn x.sc, .pointer (some ⟨x.pm, 0, none⟩), .int .i64 x.ep, .int .i64 x.aa, .int .i64 x.amd, .int .i64 x.al, .int .i64 x.ae, ptrO x.ps].toArray 82 (0, 0))) → w.cell? ⟨pc, 16, none⟩ = some (.pointer (some ⟨x.pm, 0, none⟩)) := fun h => heap_cell h.2 rfl
  have s2 : ∀ {w : World}, (w.heap[pj]? = some (.cells [.int .i64 j.kind, .int .i64 j.n, .string (str j.data), .int .i64 j.steps, .bool j.done, .int .i64 j.at', .int .i64 j.md, .int .i64 j.left, ptrO j.ps, .func (.func j.fn) #[] #[]].toArray 86 (0, 0)) ∧ w.heap[pc]? = some (.cells [vm, vd, va, .int .i64 p.bytes, .int .i64 p.trail, .int .i64 p.marks, .int .i64 p.ahead, .int .i64 p.tickets, .int .i64 p.retries, .int .i64 p.step, .pointer (some ⟨x.pw, 0, none⟩), .bool x.closed, .int .i64 x.na, .int .i64 x.nmd, .int .i64 x.dp, .slice x.sa x.sn x.sc, .pointer (some ⟨x.pm, 0, none⟩), .int .i64 x.ep, .int .i64 x.aa, .int .i64 x.amd, .int .i64 x.al, .int .i64 x.ae, ptrO x.ps].toArray 82 (0, 0))) → w.cell? ⟨pj, 1, none⟩ = some (.int .i64 j.n) := fun h => heap_cell h.1 rfl
  refine enter Tryz.func55 rfl (by simp only [Tryz.ntmps55, List.length_cons, List.length_nil, Nat.reduceAdd, Nat.reduceSub, List.replicate_succ, List.replicate_zero, List.cons_append, List.nil_append]; exact rfl) ?_
  repeat' (first | refine zN ?_ | ((with_reducible refine WQ.nilG ?_); intro w hg) | (refine zB ?_; clear hg; intro b w hg; refine WO.fr ?_) | (refine zW ?_; clear hg; intro w hg; refine WO.fr ?_) | (refine op_pureB hg ?_; clear hg; intro w hg c hc; cases c <;> refine WO.fr ?_))
  refine WC.drawn (fun w => w.heap[pj]? = some (.cells [.int .i64 j.kind, .int .i64 j.n, .string (str j.data), .int .i64 j.steps, .bool j.done, .int .i64 j.at', .int .i64 j.md, .int .i64 j.left, ptrO j.ps, .func (.func j.fn) #[] #[]].toArray 86 (0, 0)) ∧ w.heap[pc]? = some (.cells [vm, vd, va, .int .i64 p.bytes, .int .i64 p.trail, .int .i64 p.marks, .int .i64 p.ahead, .int .i64 p.tickets, .int .i64 p.retries, .int .i64 p.step, .pointer (some ⟨x.pw, 0, none⟩), .bool x.closed, .int .i64 x.na, .int .i64 x.nmd, .int .i64 x.dp, .slice x.sa x.sn x.sc, .pointer (some ⟨x.pm, 0, none⟩), .int .i64 x.ep, .int .i64 x.aa, .int .i64 x.amd, .int .i64 x.al, .int .i64 x.ae, ptrO x.ps].toArray 82 (0, 0))) [] hg ?_
  clear hg
  intro w hg
  have hS : (fun w => w.heap[pj]? = some (.cells [.int .i64 j.kind, .int .i64 j.n, .string (str j.data), .int .i64 j.steps, .bool j.done, .int .i64 j.at', .int .i64 j.md, .int .i64 j.left, ptrO j.ps, .func (.func j.fn) #[] #[]].toArray 86 (0, 0)) ∧ w.heap[pc]? = some (.cells [vm, vd, va, .int .i64 p.bytes, .int .i64 p.trail, .int .i64 p.marks, .int .i64 p.ahead, .int .i64 p.tickets, .int .i64 p.retries, .int .i64 p.step, .pointer (some ⟨x.pw, 0, none⟩), .bool x.closed, .int .i64 x.na, .int .i64 x.nmd, .int .i64 x.dp, .slice x.sa x.sn x.sc, .pointer (some ⟨x.pm, 0, none⟩), .int .i64 x.ep, .int .i64 x.aa, .int .i64 x.amd, .int .i64 x.al, .int .i64 x.ae, ptrO x.ps].toArray 82 (0, 0))) w := ⟨hg.own (pj, .cells [.int .i64 j.kind, .int .i64 j.n, .string (str j.data), .int .i64 j.steps, .bool j.done, .int .i64 j.at', .int .i64 j.md, .int .i64 j.left, ptrO j.ps, .func (.func j.fn) #[] #[]].toArray 86 (0, 0)) (by simp), hg.own (pc, .cells [vm, vd, va, .int .i64 p.bytes, .int .i64 p.trail, .int .i64 p.marks, .int .i64 p.ahead, .int .i64 p.tickets, .int .i64 p.retries, .int .i64 p.step, .pointer (some ⟨x.pw, 0, none⟩), .bool x.closed, .int .i64 x.na, .int .i64 x.nmd, .int .i64 x.dp, .slice x.sa x.sn x.sc, .pointer (some ⟨x.pm, 0, none⟩), .int .i64 x.ep, .int .i64 x.aa, .int .i64 x.amd, .int .i64 x.al, .int .i64 x.ae, ptrO x.ps].toArray 82 (0, 0)) (by simp)⟩
  refine WA.passM 0 hS ?_
  refine WA.passM 1 hS ?_
  refine WA.passM 2 hS ?_
  refine WA.passM 4 hS ?_
  refine WA.passM 5 hS ?_
  refine WA.passM 6 hS ?_
  refine WA.passM 7 hS ?_
  refine WA.passM 3 hS ?_
  refine WA.passM 8 hS ?_
  refine WA.only 9 ?_
  refine op_call (mRelease_spec j.n (T := T) (by omega) hK.mn hK.m hK.ms (hg.front 3)) ?_
  rintro _ w ⟨er, sl', fm', rfl, hM', hl', hms', hg2⟩
  clear hg hS
  have hg := hg2
  clear hg2
  refine ⟨_, rfl, ?_⟩
  refine WO.fr ?_
  replace hg := ((((((((hg.front 7).front 7).front 7).front 7).front 4).front 7).front 7).front 7)
  simp only [pull, pullIn] at hg
  have hS : (fun w => w.heap[pj]? = some (.cells [.int .i64 j.kind, .int .i64 j.n, .string (str j.data), .int .i64 j.steps, .bool j.done, .int .i64 j.at', .int .i64 j.md, .int .i64 j.left, ptrO j.ps, .func (.func j.fn) #[] #[]].toArray 86 (0, 0)) ∧ w.heap[pc]? = some (.cells [vm, vd, va, .int .i64 p.bytes, .int .i64 p.trail, .int .i64 p.marks, .int .i64 p.ahead, .int .i64 p.tickets, .int .i64 p.retries, .int .i64 p.step, .pointer (some ⟨x.pw, 0, none⟩), .bool x.closed, .int .i64 x.na, .int .i64 x.nmd, .int .i64 x.dp, .slice x.sa x.sn x.sc, .pointer (some ⟨x.pm, 0, none⟩), .int .i64 x.ep, .int .i64 x.aa, .int .i64 x.amd, .int .i64 x.al, .int .i64 x.ae, ptrO x.ps].toArray 82 (0, 0))) w := ⟨hg.own (pj, .cells [.int .i64 j.kind, .int .i64 j.n, .string (str j.data), .int .i64 j.steps, .bool j.done, .int .i64 j.at', .int .i64 j.md, .int .i64 j.left, ptrO j.ps, .func (.func j.fn) #[] #[]].toArray 86 (0, 0)) (by simp), hg.own (pc, .cells [vm, vd, va, .int .i64 p.bytes, .int .i64 p.trail, .int .i64 p.marks, .int .i64 p.ahead, .int .i64 p.tickets, .int .i64 p.retries, .int .i64 p.step, .pointer (some ⟨x.pw, 0, none⟩), .bool x.closed, .int .i64 x.na, .int .i64 x.nmd, .int .i64 x.dp, .slice x.sa x.sn x.sc, .pointer (some ⟨x.pm, 0, none⟩), .int .i64 x.ep, .int .i64 x.aa, .int .i64 x.amd, .int .i64 x.al, .int .i64 x.ae, ptrO x.ps].toArray 82 (0, 0)) (by simp)⟩
  refine WO.nilA hS ?_
  refine WA.passM 10 hS ?_
  refine WA.nil ?_
  clear hS s1 s2
  repeat' (first | refine zN ?_ | ((with_reducible refine WQ.nilG ?_); intro w hg) | (refine zB ?_; clear hg; intro b w hg; refine WO.fr ?_) | (refine zW ?_; clear hg; intro w hg; refine WO.fr ?_) | (refine op_pureB hg ?_; clear hg; intro w hg c hc; cases c <;> refine WO.fr ?_))
  have hu := hK.up (T' := T + 1) (by omega) (by omega)
  refine op_call (needed_spec ⟨sl', fw, fm', fa, fB, ⟨hu.w, hu.k, hu.al, hM', hms', by rw [hl']; exact hK.mn, hu.b, hu.e, hu.t, hu.l, hu.a⟩, (((((((hg.front 7).front 7).front 7).front 7).front 7).front 7).front 7)⟩) ?_
  clear hg hK hu hM' hms' hl'
  rintro _ w ⟨s2, ⟨v, rfl⟩, hs1, hs2, sl, fw, fm, fa, fB, hK, hg⟩
  replace hg := ((((((((hg.front 6).front 6).front 6).front 6).front 6).front 6).front 6).front 7)
  simp only [pull, pullIn, cuF, jF] at hg
  refine ⟨_, rfl, ?_⟩
  refine WO.fr ?_
  have p1 : ∀ {w' Fs}, Goes W [] Fs w' → Calls Tryz.prog 31 #[.int .i64 er] w' _ := fun h => answer_spec _ er
  simp only [resV, Tok.none] at p1
  repeat' (first | refine zN ?_ | ((with_reducible refine WQ.nilG ?_); intro w hg) | (refine zB ?_; clear hg; intro b w hg; refine WO.fr ?_) | (refine zW ?_; clear hg; intro w hg; refine WO.fr ?_) | (refine op_pureB hg ?_; clear hg; intro w hg c hc; cases c <;> refine WO.fr ?_))
  exact ret (.cells rfl (by first | with_reducible assumption | ((with_reducible apply Cells.ldn); (first | with_reducible assumption | ((with_reducible apply hg.cells0); with_reducible assumption) | with_reducible exact r1 hg | with_reducible exact r2 hg | with_reducible exact r3 hg | with_reducible exact r4 hg | with_reducible exact r5 hg | with_reducible exact t1 hs | with_reducible exact t2 hs | with_reducible exact t3 hs | with_reducible exact t4 hs); exact rfl) | ((with_reducible apply CellsAt.ldn (hg := hg)); (repeat (first | ((with_reducible apply CellsAt.whole); exact rfl) | ((with_reducible apply CellsAt.here) <;> first | with_reducible assumption | (simp only [List.drop_zero, List.drop_succ_cons, List.take_succ_cons, List.take_zero]; exact rfl) | exact rfl) | with_reducible apply CellsAt.more | with_reducible apply CellsAt.next)); done)) (.tmp rfl .nil)) ⟨er, 0, Tok.none, true, j, fj, σ, s2, _, T + 1, rfl, hSl, rfl, by omega, fun h => (by cases h), sl, fw, fm, fa, fB, hK, hg.drop0⟩
end
end Go.Proofs.YtkdidefghbeabaaGreat
