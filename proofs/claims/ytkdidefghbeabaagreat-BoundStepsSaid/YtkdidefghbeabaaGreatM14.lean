/- The scanner: on, settle. The scanner: Behind, settle, move. -/
import Derived.Test.YtkdidefghbeabaaGreatM13
namespace Go.Proofs.YtkdidefghbeabaaGreat
open Go Go.RowKit
set_option maxRecDepth 10000
set_option linter.unusedSimpArgs false
set_option linter.unusedVariables false

section
variable {W : World} {ps : Nat} {vm vd va : Value} {L : PLex} {s : SC} {Fs : List Frag} {w : World}
set_option maxHeartbeats 4000000 in
theorem son_spec (c : UInt8) (hL : LexAt W [vm, vd, va] L) (hok : LexOK L) (hs : SCOK L s) (h1 : s.nx ≤ 100000) (hg : Goes W [] (scF ps vm vd va s :: Fs) w) :
    Calls Tryz.prog 127 #[.pointer (some ⟨ps, 0, none⟩), .int .u8 (c.toNat : Int)] w fun e w' => ∃ st rule to rd, (∃ v, e = .returned v) ∧ SCOK L { s with nx := s.nx + 1, st := st, rule := rule, to := to, reads := rd } ∧ Goes W [] (scF ps vm vd va { s with nx := s.nx + 1, st := st, rule := rule, to := to, reads := rd } :: Fs) w' := by
  obtain ⟨_, _, _, e, hM, hD, hA⟩ := hL
  obtain ⟨rfl, rfl, rfl⟩ : vm = _ ∧ vd = _ ∧ va = _ := by simpa using e
  have hm := hs.m
  have hf := hs.f
  have hr := hs.r
  obtain ⟨bd, kd, cd, vc, vn, vt, rfl, hcs, hC, hN, hT⟩ := dfas_at hD hok hm
  have hd1 := hok.d1
  have hdok := dfa_ok hok hm
  have hst := hs.st
  have hcb : c.toNat < 256 := c.toNat_lt
  have hc1 := hdok.c1
  obtain ⟨bc, kc, cc, rfl, hcc⟩ := hC.get (i := c.toNat) (by rw [hc1]; exact hcb)
  have hcl := hdok.width.2.2 _ (getD_mem (i := c.toNat) (l := (L.dfa s.mode).cls) (by rw [hc1]; exact hcb))
  have ht1 := hdok.t1
  obtain ⟨at', ct, rfl, hlt⟩ := hT.slice
  obtain ⟨an, cn, rfl, hln⟩ := hN.slice
  simp only [scF] at hg ⊢
  refine enter Tryz.func127 rfl (by simp only [Tryz.ntmps127, List.length_cons, List.length_nil, Nat.reduceAdd, Nat.reduceSub, List.replicate_succ, List.replicate_zero, List.cons_append, List.nil_append]; exact rfl) ?_
  repeat' (first | refine zN ?_ | ((with_reducible refine WQ.nilG ?_); intro w hg) | (refine zB ?_; clear hg; intro b w hg; refine WO.fr ?_) | (refine zW ?_; clear hg; intro w hg; refine WO.fr ?_) | (refine op_pureB hg ?_; clear hg; intro w hg c hc; cases c <;> refine WO.fr ?_))
  have s1 : ∀ {w : World}, (w.heap[ps]? = some (.cells [vm, .slice (some ⟨bd, kd, none⟩) L.dfas.length cd, va, .int .i64 s.at0, .int .i64 s.md0, .int .i64 s.mode, .int .i64 s.fr, .int .i64 s.nx, .int .i64 s.st, .int .i64 s.rule, .int .i64 s.to, .int .i64 s.tok.kind, .int .i64 s.tok.rule, .int .i64 s.tok.fr, .int .i64 s.tok.at', .int .i64 s.tok.to, .int .i64 s.tok.mode, .int .i64 s.reads].toArray 157 (0, 0)) ∧ Goes W [] [] w) → w.cell? ⟨ps, 1, none⟩ = some (.slice (some ⟨bd, kd, none⟩) L.dfas.length cd) := fun h => heap_cell h.1 rfl
  have s2 : ∀ {w : World}, (w.heap[ps]? = some (.cells [vm, .slice (some ⟨bd, kd, none⟩) L.dfas.length cd, va, .int .i64 s.at0, .int .i64 s.md0, .int .i64 s.mode, .int .i64 s.fr, .int .i64 s.nx, .int .i64 s.st, .int .i64 s.rule, .int .i64 s.to, .int .i64 s.tok.kind, .int .i64 s.tok.rule, .int .i64 s.tok.fr, .int .i64 s.tok.at', .int .i64 s.tok.to, .int .i64 s.tok.mode, .int .i64 s.reads].toArray 157 (0, 0)) ∧ Goes W [] [] w) → w.cell? ⟨ps, 5, none⟩ = some (.int .i64 s.mode) := fun h => heap_cell h.1 rfl
  have t1 : ∀ {w : World}, (w.heap[ps]? = some (.cells [vm, .slice (some ⟨bd, kd, none⟩) L.dfas.length cd, va, .int .i64 s.at0, .int .i64 s.md0, .int .i64 s.mode, .int .i64 s.fr, .int .i64 s.nx, .int .i64 s.st, .int .i64 s.rule, .int .i64 s.to, .int .i64 s.tok.kind, .int .i64 s.tok.rule, .int .i64 s.tok.fr, .int .i64 s.tok.at', .int .i64 s.tok.to, .int .i64 s.tok.mode, .int .i64 s.reads].toArray 157 (0, 0)) ∧ Goes W [] [] w) → Cells w ⟨bd, kd + s.mode.toNat * 5, none⟩ _ := fun h => h.2.cells0 hcs
  refine WC.drawn (fun w => w.heap[ps]? = some (.cells [vm, .slice (some ⟨bd, kd, none⟩) L.dfas.length cd, va, .int .i64 s.at0, .int .i64 s.md0, .int .i64 s.mode, .int .i64 s.fr, .int .i64 s.nx, .int .i64 s.st, .int .i64 s.rule, .int .i64 s.to, .int .i64 s.tok.kind, .int .i64 s.tok.rule, .int .i64 s.tok.fr, .int .i64 s.tok.at', .int .i64 s.tok.to, .int .i64 s.tok.mode, .int .i64 s.reads].toArray 157 (0, 0)) ∧ Goes W [] [] w) [12] hg ?_
  clear hg
  intro w hg
  have hS : (fun w => w.heap[ps]? = some (.cells [vm, .slice (some ⟨bd, kd, none⟩) L.dfas.length cd, va, .int .i64 s.at0, .int .i64 s.md0, .int .i64 s.mode, .int .i64 s.fr, .int .i64 s.nx, .int .i64 s.st, .int .i64 s.rule, .int .i64 s.to, .int .i64 s.tok.kind, .int .i64 s.tok.rule, .int .i64 s.tok.fr, .int .i64 s.tok.at', .int .i64 s.tok.to, .int .i64 s.tok.mode, .int .i64 s.reads].toArray 157 (0, 0)) ∧ Goes W [] [] w) w := ⟨hg.own (ps, .cells [vm, .slice (some ⟨bd, kd, none⟩) L.dfas.length cd, va, .int .i64 s.at0, .int .i64 s.md0, .int .i64 s.mode, .int .i64 s.fr, .int .i64 s.nx, .int .i64 s.st, .int .i64 s.rule, .int .i64 s.to, .int .i64 s.tok.kind, .int .i64 s.tok.rule, .int .i64 s.tok.fr, .int .i64 s.tok.at', .int .i64 s.tok.to, .int .i64 s.tok.mode, .int .i64 s.reads].toArray 157 (0, 0)) (by simp), hg.drop⟩
  refine WA.passM 0 hS ?_
  refine WA.passM 1 hS ?_
  refine WA.passM 2 hS ?_
  refine WA.passM 3 hS ?_
  refine WA.passM 5 hS ?_
  refine WA.passM 6 hS ?_
  refine WA.passM 7 hS ?_
  refine WA.passM 4 hS ?_
  refine WA.passM 8 hS ?_
  refine WA.passM 9 hS ?_
  refine WA.passM 10 hS ?_
  refine WA.only 11 ?_
  refine op_alloc hg ?_
  clear hg hS
  intro b w hg
  refine WO.fr ?_
  have hS : (fun w => w.heap[ps]? = some (.cells [vm, .slice (some ⟨bd, kd, none⟩) L.dfas.length cd, va, .int .i64 s.at0, .int .i64 s.md0, .int .i64 s.mode, .int .i64 s.fr, .int .i64 s.nx, .int .i64 s.st, .int .i64 s.rule, .int .i64 s.to, .int .i64 s.tok.kind, .int .i64 s.tok.rule, .int .i64 s.tok.fr, .int .i64 s.tok.at', .int .i64 s.tok.to, .int .i64 s.tok.mode, .int .i64 s.reads].toArray 157 (0, 0)) ∧ Goes W [] [] w) w := ⟨hg.own (ps, .cells [vm, .slice (some ⟨bd, kd, none⟩) L.dfas.length cd, va, .int .i64 s.at0, .int .i64 s.md0, .int .i64 s.mode, .int .i64 s.fr, .int .i64 s.nx, .int .i64 s.st, .int .i64 s.rule, .int .i64 s.to, .int .i64 s.tok.kind, .int .i64 s.tok.rule, .int .i64 s.tok.fr, .int .i64 s.tok.at', .int .i64 s.tok.to, .int .i64 s.tok.mode, .int .i64 s.reads].toArray 157 (0, 0)) (by simp), hg.drop⟩
  refine WO.nilA hS ?_
  refine WA.only 12 ?_
  refine op_stA hg ?_
  clear hg hS
  intro w hg
  refine WO.fr ?_
  refine WO.nilL ?_
  refine WA.nil ?_
  clear s1 s2 t1
  repeat' (first | refine zN ?_ | ((with_reducible refine WQ.nilG ?_); intro w hg) | (refine zB ?_; clear hg; intro b w hg; refine WO.fr ?_) | (refine zW ?_; clear hg; intro w hg; refine WO.fr ?_) | (refine op_pureB hg ?_; clear hg; intro w hg c hc; cases c <;> refine WO.fr ?_))
  refine WO.x ?_ (hx := x_arithW)
  repeat' (first | refine zN ?_ | ((with_reducible refine WQ.nilG ?_); intro w hg) | (refine zB ?_; clear hg; intro b w hg; refine WO.fr ?_) | (refine zW ?_; clear hg; intro w hg; refine WO.fr ?_) | (refine op_pureB hg ?_; clear hg; intro w hg c hc; cases c <;> refine WO.fr ?_))
  by_cases h0 : 0 ≤ s.st
  rotate_left
  · repeat' (first | refine zN ?_ | (refine WC.quietG hg ?_; clear hg) | ((with_reducible refine WQ.nilG ?_); intro w hg) | (refine zB ?_; clear hg; intro b w hg; refine WO.fr ?_) | (refine zW ?_; clear hg; intro w hg; refine WO.fr ?_) | (refine op_pureB hg ?_; clear hg; intro w hg c hc; cases c <;> refine WO.fr ?_))
    exact end0 rfl ⟨s.st, s.rule, s.to, _, ⟨_, rfl⟩, ⟨hm, by dsimp only; omega, fun _ => by dsimp only; omega, hst, by dsimp only; omega⟩, (hg.front 1).tail1⟩
  obtain ⟨bn, kn, cn', au, cu, e2, hrc, hU⟩ := row_at hN hdok ⟨h0, hst.2⟩
  simp only [Value.slice.injEq, true_and] at e2
  obtain ⟨rfl, rfl⟩ := e2
  have hr1 := hdok.r1 s.st.toNat (by omega)
  have hr2 := hdok.r2 s.st.toNat ((L.dfa s.mode).cls.getD c.toNat 0).toNat (by omega) (by omega)
  generalize (L.dfa s.mode).next.getD s.st.toNat [] = row at hrc hU hr1 hr2
  obtain ⟨bu, ku, cu', e3, huc⟩ := hU.get (i := ((L.dfa s.mode).cls.getD c.toNat 0).toNat) (by omega)
  simp only [Value.slice.injEq, true_and] at e3
  obtain ⟨rfl, rfl⟩ := e3
  generalize (L.dfa s.mode).cls.getD c.toNat 0 = k at hcl hcc huc hr2
  generalize row.getD k.toNat 0 = x at huc hr2
  repeat' (first | refine zN ?_ | ((with_reducible refine WQ.nilG ?_); intro w hg) | (refine zB ?_; clear hg; intro b w hg; refine WO.fr ?_) | (refine zW ?_; clear hg; intro w hg; refine WO.fr ?_) | (refine op_pureB hg ?_; clear hg; intro w hg c hc; cases c <;> refine WO.fr ?_))
  have s1 : ∀ {w : World}, (w.heap[ps]? = some (.cells [vm, .slice (some ⟨bd, kd, none⟩) L.dfas.length cd, va, .int .i64 s.at0, .int .i64 s.md0, .int .i64 s.mode, .int .i64 s.fr, .int .i64 (s.nx + 1), .int .i64 s.st, .int .i64 s.rule, .int .i64 s.to, .int .i64 s.tok.kind, .int .i64 s.tok.rule, .int .i64 s.tok.fr, .int .i64 s.tok.at', .int .i64 s.tok.to, .int .i64 s.tok.mode, .int .i64 (IntKind.i64.wrap (s.reads + 1))].toArray 157 (0, 0)) ∧ w.heap[b]? = some (.cells [.slice (some ⟨bc, kc, none⟩) (L.dfa s.mode).cls.length cc, .int .i64 (L.dfa s.mode).width, .slice (some ⟨bn, kn, none⟩) (L.dfa s.mode).next.length cn, .slice at' (L.dfa s.mode).tag.length ct, .int .i64 (L.dfa s.mode).start].toArray 101 (0, 0)) ∧ Goes W [] [] w) → w.cell? ⟨b, 2, none⟩ = some (.slice (some ⟨bn, kn, none⟩) (L.dfa s.mode).next.length cn) := fun h => heap_cell h.2.1 rfl
  have s2 : ∀ {w : World}, (w.heap[ps]? = some (.cells [vm, .slice (some ⟨bd, kd, none⟩) L.dfas.length cd, va, .int .i64 s.at0, .int .i64 s.md0, .int .i64 s.mode, .int .i64 s.fr, .int .i64 (s.nx + 1), .int .i64 s.st, .int .i64 s.rule, .int .i64 s.to, .int .i64 s.tok.kind, .int .i64 s.tok.rule, .int .i64 s.tok.fr, .int .i64 s.tok.at', .int .i64 s.tok.to, .int .i64 s.tok.mode, .int .i64 (IntKind.i64.wrap (s.reads + 1))].toArray 157 (0, 0)) ∧ w.heap[b]? = some (.cells [.slice (some ⟨bc, kc, none⟩) (L.dfa s.mode).cls.length cc, .int .i64 (L.dfa s.mode).width, .slice (some ⟨bn, kn, none⟩) (L.dfa s.mode).next.length cn, .slice at' (L.dfa s.mode).tag.length ct, .int .i64 (L.dfa s.mode).start].toArray 101 (0, 0)) ∧ Goes W [] [] w) → w.cell? ⟨ps, 8, none⟩ = some (.int .i64 s.st) := fun h => heap_cell h.1 rfl
  have s3 : ∀ {w : World}, (w.heap[ps]? = some (.cells [vm, .slice (some ⟨bd, kd, none⟩) L.dfas.length cd, va, .int .i64 s.at0, .int .i64 s.md0, .int .i64 s.mode, .int .i64 s.fr, .int .i64 (s.nx + 1), .int .i64 s.st, .int .i64 s.rule, .int .i64 s.to, .int .i64 s.tok.kind, .int .i64 s.tok.rule, .int .i64 s.tok.fr, .int .i64 s.tok.at', .int .i64 s.tok.to, .int .i64 s.tok.mode, .int .i64 (IntKind.i64.wrap (s.reads + 1))].toArray 157 (0, 0)) ∧ w.heap[b]? = some (.cells [.slice (some ⟨bc, kc, none⟩) (L.dfa s.mode).cls.length cc, .int .i64 (L.dfa s.mode).width, .slice (some ⟨bn, kn, none⟩) (L.dfa s.mode).next.length cn, .slice at' (L.dfa s.mode).tag.length ct, .int .i64 (L.dfa s.mode).start].toArray 101 (0, 0)) ∧ Goes W [] [] w) → w.cell? ⟨bn, kn + s.st.toNat, none⟩ = some (.slice (some ⟨bu, ku, none⟩) row.length cu) := fun h => h.2.2.cellOld0 hrc
  have s4 : ∀ {w : World}, (w.heap[ps]? = some (.cells [vm, .slice (some ⟨bd, kd, none⟩) L.dfas.length cd, va, .int .i64 s.at0, .int .i64 s.md0, .int .i64 s.mode, .int .i64 s.fr, .int .i64 (s.nx + 1), .int .i64 s.st, .int .i64 s.rule, .int .i64 s.to, .int .i64 s.tok.kind, .int .i64 s.tok.rule, .int .i64 s.tok.fr, .int .i64 s.tok.at', .int .i64 s.tok.to, .int .i64 s.tok.mode, .int .i64 (IntKind.i64.wrap (s.reads + 1))].toArray 157 (0, 0)) ∧ w.heap[b]? = some (.cells [.slice (some ⟨bc, kc, none⟩) (L.dfa s.mode).cls.length cc, .int .i64 (L.dfa s.mode).width, .slice (some ⟨bn, kn, none⟩) (L.dfa s.mode).next.length cn, .slice at' (L.dfa s.mode).tag.length ct, .int .i64 (L.dfa s.mode).start].toArray 101 (0, 0)) ∧ Goes W [] [] w) → w.cell? ⟨b, 0, none⟩ = some (.slice (some ⟨bc, kc, none⟩) (L.dfa s.mode).cls.length cc) := fun h => heap_cell h.2.1 rfl
  have s5 : ∀ {w : World}, (w.heap[ps]? = some (.cells [vm, .slice (some ⟨bd, kd, none⟩) L.dfas.length cd, va, .int .i64 s.at0, .int .i64 s.md0, .int .i64 s.mode, .int .i64 s.fr, .int .i64 (s.nx + 1), .int .i64 s.st, .int .i64 s.rule, .int .i64 s.to, .int .i64 s.tok.kind, .int .i64 s.tok.rule, .int .i64 s.tok.fr, .int .i64 s.tok.at', .int .i64 s.tok.to, .int .i64 s.tok.mode, .int .i64 (IntKind.i64.wrap (s.reads + 1))].toArray 157 (0, 0)) ∧ w.heap[b]? = some (.cells [.slice (some ⟨bc, kc, none⟩) (L.dfa s.mode).cls.length cc, .int .i64 (L.dfa s.mode).width, .slice (some ⟨bn, kn, none⟩) (L.dfa s.mode).next.length cn, .slice at' (L.dfa s.mode).tag.length ct, .int .i64 (L.dfa s.mode).start].toArray 101 (0, 0)) ∧ Goes W [] [] w) → w.cell? ⟨bc, kc + c.toNat, none⟩ = some (.int .i64 k) := fun h => h.2.2.cellOld0 hcc
  have s6 : ∀ {w : World}, (w.heap[ps]? = some (.cells [vm, .slice (some ⟨bd, kd, none⟩) L.dfas.length cd, va, .int .i64 s.at0, .int .i64 s.md0, .int .i64 s.mode, .int .i64 s.fr, .int .i64 (s.nx + 1), .int .i64 s.st, .int .i64 s.rule, .int .i64 s.to, .int .i64 s.tok.kind, .int .i64 s.tok.rule, .int .i64 s.tok.fr, .int .i64 s.tok.at', .int .i64 s.tok.to, .int .i64 s.tok.mode, .int .i64 (IntKind.i64.wrap (s.reads + 1))].toArray 157 (0, 0)) ∧ w.heap[b]? = some (.cells [.slice (some ⟨bc, kc, none⟩) (L.dfa s.mode).cls.length cc, .int .i64 (L.dfa s.mode).width, .slice (some ⟨bn, kn, none⟩) (L.dfa s.mode).next.length cn, .slice at' (L.dfa s.mode).tag.length ct, .int .i64 (L.dfa s.mode).start].toArray 101 (0, 0)) ∧ Goes W [] [] w) → w.cell? ⟨bu, ku + k.toNat, none⟩ = some (.int .i64 x) := fun h => h.2.2.cellOld0 huc
  refine WC.drawn (fun w => w.heap[ps]? = some (.cells [vm, .slice (some ⟨bd, kd, none⟩) L.dfas.length cd, va, .int .i64 s.at0, .int .i64 s.md0, .int .i64 s.mode, .int .i64 s.fr, .int .i64 (s.nx + 1), .int .i64 s.st, .int .i64 s.rule, .int .i64 s.to, .int .i64 s.tok.kind, .int .i64 s.tok.rule, .int .i64 s.tok.fr, .int .i64 s.tok.at', .int .i64 s.tok.to, .int .i64 s.tok.mode, .int .i64 (IntKind.i64.wrap (s.reads + 1))].toArray 157 (0, 0)) ∧ w.heap[b]? = some (.cells [.slice (some ⟨bc, kc, none⟩) (L.dfa s.mode).cls.length cc, .int .i64 (L.dfa s.mode).width, .slice (some ⟨bn, kn, none⟩) (L.dfa s.mode).next.length cn, .slice at' (L.dfa s.mode).tag.length ct, .int .i64 (L.dfa s.mode).start].toArray 101 (0, 0)) ∧ Goes W [] [] w) [20] hg ?_
  clear hg
  intro w hg
  have hS : (fun w => w.heap[ps]? = some (.cells [vm, .slice (some ⟨bd, kd, none⟩) L.dfas.length cd, va, .int .i64 s.at0, .int .i64 s.md0, .int .i64 s.mode, .int .i64 s.fr, .int .i64 (s.nx + 1), .int .i64 s.st, .int .i64 s.rule, .int .i64 s.to, .int .i64 s.tok.kind, .int .i64 s.tok.rule, .int .i64 s.tok.fr, .int .i64 s.tok.at', .int .i64 s.tok.to, .int .i64 s.tok.mode, .int .i64 (IntKind.i64.wrap (s.reads + 1))].toArray 157 (0, 0)) ∧ w.heap[b]? = some (.cells [.slice (some ⟨bc, kc, none⟩) (L.dfa s.mode).cls.length cc, .int .i64 (L.dfa s.mode).width, .slice (some ⟨bn, kn, none⟩) (L.dfa s.mode).next.length cn, .slice at' (L.dfa s.mode).tag.length ct, .int .i64 (L.dfa s.mode).start].toArray 101 (0, 0)) ∧ Goes W [] [] w) w := ⟨hg.own (ps, .cells [vm, .slice (some ⟨bd, kd, none⟩) L.dfas.length cd, va, .int .i64 s.at0, .int .i64 s.md0, .int .i64 s.mode, .int .i64 s.fr, .int .i64 (s.nx + 1), .int .i64 s.st, .int .i64 s.rule, .int .i64 s.to, .int .i64 s.tok.kind, .int .i64 s.tok.rule, .int .i64 s.tok.fr, .int .i64 s.tok.at', .int .i64 s.tok.to, .int .i64 s.tok.mode, .int .i64 (IntKind.i64.wrap (s.reads + 1))].toArray 157 (0, 0)) (by simp), hg.own (b, .cells [.slice (some ⟨bc, kc, none⟩) (L.dfa s.mode).cls.length cc, .int .i64 (L.dfa s.mode).width, .slice (some ⟨bn, kn, none⟩) (L.dfa s.mode).next.length cn, .slice at' (L.dfa s.mode).tag.length ct, .int .i64 (L.dfa s.mode).start].toArray 101 (0, 0)) (by simp), hg.drop⟩
  refine WA.passM 0 hS ?_
  refine WA.passM 1 hS ?_
  refine WA.passM 3 hS ?_
  refine WA.passM 4 hS ?_
  refine WA.passM 5 hS ?_
  refine WA.passM 6 hS ?_
  refine WA.passM 10 hS ?_
  refine WA.passM 12 hS ?_
  refine WA.passM 2 hS ?_
  refine WA.passM 7 hS ?_
  refine WA.passM 8 hS ?_
  refine WA.passM 9 hS ?_
  refine WA.passM 11 hS ?_
  refine WA.passM 13 hS ?_
  refine WA.passM 14 hS ?_
  refine WA.passM 15 hS ?_
  refine WA.passM 16 hS ?_
  refine WA.passM 17 hS ?_
  refine WA.passM 18 hS ?_
  refine WA.passM 19 hS ?_
  refine WA.only 20 ?_
  refine op_st hg ?_
  clear hg hS
  intro w hg
  refine WO.fr ?_
  refine WO.nilL ?_
  refine WA.nil ?_
  clear s1 s2 s3 s4 s5 s6
  by_cases hx : 0 ≤ x
  rotate_left
  · repeat' (first | refine zN ?_ | (refine WC.quietG hg ?_; clear hg) | ((with_reducible refine WQ.nilG ?_); intro w hg) | (refine zB ?_; clear hg; intro b w hg; refine WO.fr ?_) | (refine zW ?_; clear hg; intro w hg; refine WO.fr ?_) | (refine op_pureB hg ?_; clear hg; intro w hg c hc; cases c <;> refine WO.fr ?_))
    exact end0 rfl ⟨x, s.rule, s.to, _, ⟨_, rfl⟩, ⟨hm, by dsimp only; omega, fun _ => by dsimp only; omega, hr2, by dsimp only; omega⟩, (hg.front 1).tail1⟩
  obtain ⟨bt, kt, ct', e4, htc⟩ := hT.get (i := x.toNat) (by omega)
  simp only [Value.slice.injEq, true_and] at e4
  obtain ⟨rfl, rfl⟩ := e4
  have ht2 := hdok.t2 x.toNat (by omega)
  generalize (L.dfa s.mode).tag.getD x.toNat 0 = t at htc ht2
  have c1 : ∀ {w Fs}, Goes W [] Fs w → w.cell? ⟨bt, kt + x.toNat, none⟩ = some (.int .i64 t) := fun h => h.cellOld0 htc
  by_cases ht : 0 ≤ t
  rotate_left
  · repeat' (first | refine zN ?_ | (refine WC.quietG hg ?_; clear hg) | ((with_reducible refine WQ.nilG ?_); intro w hg) | (refine zB ?_; clear hg; intro b w hg; refine WO.fr ?_) | (refine zW ?_; clear hg; intro w hg; refine WO.fr ?_) | (refine op_pureB hg ?_; clear hg; intro w hg c hc; cases c <;> refine WO.fr ?_))
    exact end0 rfl ⟨x, s.rule, s.to, _, ⟨_, rfl⟩, ⟨hm, by dsimp only; omega, fun _ => by dsimp only; omega, hr2, by dsimp only; omega⟩, (hg.front 1).tail1⟩
  repeat' (first | refine zN ?_ | ((with_reducible refine WQ.nilG ?_); intro w hg) | (refine zB ?_; clear hg; intro b w hg; refine WO.fr ?_) | (refine zW ?_; clear hg; intro w hg; refine WO.fr ?_) | (refine op_pureB hg ?_; clear hg; intro w hg c hc; cases c <;> refine WO.fr ?_))
  refine WC.quietG hg ?_
  clear hg
  repeat' (first
    | ((with_reducible refine WQ.nilG ?_); intro w hg)
    | ((with_reducible refine WQ.cid ?_); first | refine WQ.xG ?_ | refine WQ.pure ?_)
    | ((with_reducible refine WQ.gid ?_); first | refine WQ.on rfl ?_ | refine WQ.offN rfl rfl ?_ | refine WQ.offU rfl ?_))
  clear c1
  repeat' (first | refine zN ?_ | ((with_reducible refine WQ.nilG ?_); intro w hg) | (refine zB ?_; clear hg; intro b w hg; refine WO.fr ?_) | (refine zW ?_; clear hg; intro w hg; refine WO.fr ?_) | (refine op_pureB hg ?_; clear hg; intro w hg c hc; cases c <;> refine WO.fr ?_))
  have s1 : ∀ {w : World}, (w.heap[ps]? = some (.cells [vm, .slice (some ⟨bd, kd, none⟩) L.dfas.length cd, va, .int .i64 s.at0, .int .i64 s.md0, .int .i64 s.mode, .int .i64 s.fr, .int .i64 (s.nx + 1), .int .i64 x, .int .i64 s.rule, .int .i64 s.to, .int .i64 s.tok.kind, .int .i64 s.tok.rule, .int .i64 s.tok.fr, .int .i64 s.tok.at', .int .i64 s.tok.to, .int .i64 s.tok.mode, .int .i64 (IntKind.i64.wrap (s.reads + 1))].toArray 157 (0, 0)) ∧ w.heap[b]? = some (.cells [.slice (some ⟨bc, kc, none⟩) (L.dfa s.mode).cls.length cc, .int .i64 (L.dfa s.mode).width, .slice (some ⟨bn, kn, none⟩) (L.dfa s.mode).next.length cn, .slice (some ⟨bt, kt, none⟩) (L.dfa s.mode).tag.length ct, .int .i64 (L.dfa s.mode).start].toArray 101 (0, 0)) ∧ Goes W [] [] w) → w.cell? ⟨b, 3, none⟩ = some (.slice (some ⟨bt, kt, none⟩) (L.dfa s.mode).tag.length ct) := fun h => heap_cell h.2.1 rfl
  have s2 : ∀ {w : World}, (w.heap[ps]? = some (.cells [vm, .slice (some ⟨bd, kd, none⟩) L.dfas.length cd, va, .int .i64 s.at0, .int .i64 s.md0, .int .i64 s.mode, .int .i64 s.fr, .int .i64 (s.nx + 1), .int .i64 x, .int .i64 s.rule, .int .i64 s.to, .int .i64 s.tok.kind, .int .i64 s.tok.rule, .int .i64 s.tok.fr, .int .i64 s.tok.at', .int .i64 s.tok.to, .int .i64 s.tok.mode, .int .i64 (IntKind.i64.wrap (s.reads + 1))].toArray 157 (0, 0)) ∧ w.heap[b]? = some (.cells [.slice (some ⟨bc, kc, none⟩) (L.dfa s.mode).cls.length cc, .int .i64 (L.dfa s.mode).width, .slice (some ⟨bn, kn, none⟩) (L.dfa s.mode).next.length cn, .slice (some ⟨bt, kt, none⟩) (L.dfa s.mode).tag.length ct, .int .i64 (L.dfa s.mode).start].toArray 101 (0, 0)) ∧ Goes W [] [] w) → w.cell? ⟨ps, 8, none⟩ = some (.int .i64 x) := fun h => heap_cell h.1 rfl
  have s3 : ∀ {w : World}, (w.heap[ps]? = some (.cells [vm, .slice (some ⟨bd, kd, none⟩) L.dfas.length cd, va, .int .i64 s.at0, .int .i64 s.md0, .int .i64 s.mode, .int .i64 s.fr, .int .i64 (s.nx + 1), .int .i64 x, .int .i64 s.rule, .int .i64 s.to, .int .i64 s.tok.kind, .int .i64 s.tok.rule, .int .i64 s.tok.fr, .int .i64 s.tok.at', .int .i64 s.tok.to, .int .i64 s.tok.mode, .int .i64 (IntKind.i64.wrap (s.reads + 1))].toArray 157 (0, 0)) ∧ w.heap[b]? = some (.cells [.slice (some ⟨bc, kc, none⟩) (L.dfa s.mode).cls.length cc, .int .i64 (L.dfa s.mode).width, .slice (some ⟨bn, kn, none⟩) (L.dfa s.mode).next.length cn, .slice (some ⟨bt, kt, none⟩) (L.dfa s.mode).tag.length ct, .int .i64 (L.dfa s.mode).start].toArray 101 (0, 0)) ∧ Goes W [] [] w) → w.cell? ⟨bt, kt + x.toNat, none⟩ = some (.int .i64 t) := fun h => h.2.2.cellOld0 htc
  have s4 : ∀ {w : World}, (w.heap[ps]? = some (.cells [vm, .slice (some ⟨bd, kd, none⟩) L.dfas.length cd, va, .int .i64 s.at0, .int .i64 s.md0, .int .i64 s.mode, .int .i64 s.fr, .int .i64 (s.nx + 1), .int .i64 x, .int .i64 s.rule, .int .i64 s.to, .int .i64 s.tok.kind, .int .i64 s.tok.rule, .int .i64 s.tok.fr, .int .i64 s.tok.at', .int .i64 s.tok.to, .int .i64 s.tok.mode, .int .i64 (IntKind.i64.wrap (s.reads + 1))].toArray 157 (0, 0)) ∧ w.heap[b]? = some (.cells [.slice (some ⟨bc, kc, none⟩) (L.dfa s.mode).cls.length cc, .int .i64 (L.dfa s.mode).width, .slice (some ⟨bn, kn, none⟩) (L.dfa s.mode).next.length cn, .slice (some ⟨bt, kt, none⟩) (L.dfa s.mode).tag.length ct, .int .i64 (L.dfa s.mode).start].toArray 101 (0, 0)) ∧ Goes W [] [] w) → w.cell? ⟨ps, 7, none⟩ = some (.int .i64 (s.nx + 1)) := fun h => heap_cell h.1 rfl
  refine WC.drawn (fun w => w.heap[ps]? = some (.cells [vm, .slice (some ⟨bd, kd, none⟩) L.dfas.length cd, va, .int .i64 s.at0, .int .i64 s.md0, .int .i64 s.mode, .int .i64 s.fr, .int .i64 (s.nx + 1), .int .i64 x, .int .i64 s.rule, .int .i64 s.to, .int .i64 s.tok.kind, .int .i64 s.tok.rule, .int .i64 s.tok.fr, .int .i64 s.tok.at', .int .i64 s.tok.to, .int .i64 s.tok.mode, .int .i64 (IntKind.i64.wrap (s.reads + 1))].toArray 157 (0, 0)) ∧ w.heap[b]? = some (.cells [.slice (some ⟨bc, kc, none⟩) (L.dfa s.mode).cls.length cc, .int .i64 (L.dfa s.mode).width, .slice (some ⟨bn, kn, none⟩) (L.dfa s.mode).next.length cn, .slice (some ⟨bt, kt, none⟩) (L.dfa s.mode).tag.length ct, .int .i64 (L.dfa s.mode).start].toArray 101 (0, 0)) ∧ Goes W [] [] w) [1, 19, 20, 21, 22, 23] hg ?_
  clear hg
  intro w hg
  have hS : (fun w => w.heap[ps]? = some (.cells [vm, .slice (some ⟨bd, kd, none⟩) L.dfas.length cd, va, .int .i64 s.at0, .int .i64 s.md0, .int .i64 s.mode, .int .i64 s.fr, .int .i64 (s.nx + 1), .int .i64 x, .int .i64 s.rule, .int .i64 s.to, .int .i64 s.tok.kind, .int .i64 s.tok.rule, .int .i64 s.tok.fr, .int .i64 s.tok.at', .int .i64 s.tok.to, .int .i64 s.tok.mode, .int .i64 (IntKind.i64.wrap (s.reads + 1))].toArray 157 (0, 0)) ∧ w.heap[b]? = some (.cells [.slice (some ⟨bc, kc, none⟩) (L.dfa s.mode).cls.length cc, .int .i64 (L.dfa s.mode).width, .slice (some ⟨bn, kn, none⟩) (L.dfa s.mode).next.length cn, .slice (some ⟨bt, kt, none⟩) (L.dfa s.mode).tag.length ct, .int .i64 (L.dfa s.mode).start].toArray 101 (0, 0)) ∧ Goes W [] [] w) w := ⟨hg.own (ps, .cells [vm, .slice (some ⟨bd, kd, none⟩) L.dfas.length cd, va, .int .i64 s.at0, .int .i64 s.md0, .int .i64 s.mode, .int .i64 s.fr, .int .i64 (s.nx + 1), .int .i64 x, .int .i64 s.rule, .int .i64 s.to, .int .i64 s.tok.kind, .int .i64 s.tok.rule, .int .i64 s.tok.fr, .int .i64 s.tok.at', .int .i64 s.tok.to, .int .i64 s.tok.mode, .int .i64 (IntKind.i64.wrap (s.reads + 1))].toArray 157 (0, 0)) (by simp), hg.own (b, .cells [.slice (some ⟨bc, kc, none⟩) (L.dfa s.mode).cls.length cc, .int .i64 (L.dfa s.mode).width, .slice (some ⟨bn, kn, none⟩) (L.dfa s.mode).next.length cn, .slice (some ⟨bt, kt, none⟩) (L.dfa s.mode).tag.length ct, .int .i64 (L.dfa s.mode).start].toArray 101 (0, 0)) (by simp), hg.drop⟩
  refine WA.passM 0 hS ?_
  refine WA.passL 1 ?_
  refine WA.passM 2 hS ?_
  refine WA.passM 4 hS ?_
  refine WA.passM 5 hS ?_
  refine WA.passM 6 hS ?_
  refine WA.passM 7 hS ?_
  refine WA.passM 11 hS ?_
  refine WA.passM 12 hS ?_
  refine WA.passM 13 hS ?_
  refine WA.passM 14 hS ?_
  refine WA.passM 3 hS ?_
  refine WA.passM 8 hS ?_
  refine WA.passM 9 hS ?_
  refine WA.passM 10 hS ?_
  refine WA.passM 15 hS ?_
  refine WA.passM 16 hS ?_
  refine WA.passM 17 hS ?_
  refine WA.passM 18 hS ?_
  refine WA.only 19 ?_
  refine op_st hg ?_
  clear hg hS
  intro w hg
  refine WO.fr ?_
  refine WO.nilL ?_
  refine WA.passL 20 ?_
  refine WA.passL 21 ?_
  refine WA.passL 22 ?_
  refine WA.only 23 ?_
  refine op_st hg ?_
  clear hg
  intro w hg
  refine WO.fr ?_
  refine WO.nilL ?_
  refine WA.nil ?_
  repeat' (first | refine zN ?_ | (refine WC.quietG hg ?_; clear hg) | ((with_reducible refine WQ.nilG ?_); intro w hg) | (refine zB ?_; clear hg; intro b w hg; refine WO.fr ?_) | (refine zW ?_; clear hg; intro w hg; refine WO.fr ?_) | (refine op_pureB hg ?_; clear hg; intro w hg c hc; cases c <;> refine WO.fr ?_))
  exact end0 rfl ⟨x, t, s.nx + 1, _, ⟨_, rfl⟩, ⟨hm, by dsimp only; omega, fun _ => by dsimp only; omega, hr2, by dsimp only; omega⟩, (hg.front 1).tail1⟩
end
end Go.Proofs.YtkdidefghbeabaaGreat
namespace Go.Proofs.YtkdidefghbeabaaGreat
open Go Go.RowKit
set_option maxRecDepth 10000
set_option linter.unusedSimpArgs false
set_option linter.unusedVariables false

theorem behind_spec (w0 : World) (t : Tok) : Calls Tryz.prog 33 #[.agg t.enc.toArray] w0 fun e w' => e = .returned (.agg [.int .i64 t.to, .int .i64 t.mode].toArray) ∧ Goes w0 [] [] w' := by
  have hg := Goes.refl w0
  simp only [Tok.enc]
  refine enter Tryz.func33 rfl (by simp only [Tryz.ntmps33, List.length_cons, List.length_nil, Nat.reduceAdd, Nat.reduceSub, List.replicate_succ, List.replicate_zero, List.cons_append, List.nil_append]; exact rfl) ?_
  repeat' (first | refine zN ?_ | (refine WC.quietG hg ?_; clear hg) | ((with_reducible refine WQ.nilG ?_); intro w hg) | (refine zB ?_; clear hg; intro b w hg; refine WO.fr ?_) | (refine zW ?_; clear hg; intro w hg; refine WO.fr ?_) | (refine op_pureB hg ?_; clear hg; intro w hg c hc; cases c <;> refine WO.fr ?_))
  exact ret (.cells rfl (by first | with_reducible assumption | ((with_reducible apply Cells.ldn); (first | with_reducible assumption | ((with_reducible apply hg.cells0); with_reducible assumption) | with_reducible exact r1 hg | with_reducible exact r2 hg | with_reducible exact r3 hg | with_reducible exact r4 hg | with_reducible exact r5 hg | with_reducible exact t1 hs | with_reducible exact t2 hs | with_reducible exact t3 hs | with_reducible exact t4 hs); exact rfl) | ((with_reducible apply CellsAt.ldn (hg := hg)); (repeat (first | ((with_reducible apply CellsAt.whole); exact rfl) | ((with_reducible apply CellsAt.here) <;> first | with_reducible assumption | (simp only [List.drop_zero, List.drop_succ_cons, List.take_succ_cons, List.take_zero]; exact rfl) | exact rfl) | with_reducible apply CellsAt.more | with_reducible apply CellsAt.next)); done)) .nil) ⟨rfl, hg.drop⟩

/-- What a lexeme that ends comes to: a token, or the next lexeme. -/
def Settled (L : PLex) (s s' : SC) : Prop := SCOK L s' ∧ ((s'.tok ≠ Tok.none ∧ s'.fr = s.fr ∧ s'.nx = s.nx) ∨ (s'.tok = s.tok ∧ s.fr < s'.fr ∧ s'.fr ≤ s.nx ∧ s'.nx = s'.fr))
theorem fresh_ok {L : PLex} {s : SC} {a m : Int} (hok : LexOK L) (hm : 0 ≤ m ∧ m < L.modes.length) (ha : 0 ≤ a) : SCOK L { s with mode := m, fr := a, nx := a, st := (L.dfa m).start, rule := -1, to := a } :=
  ⟨hm, ⟨ha, Int.le_refl _⟩, fun h => absurd h (Int.lt_irrefl _), (dfa_ok hok hm).s1, .inl rfl⟩

section
variable {W : World} {ps : Nat} {vm vd va : Value} {L : PLex} {s : SC} {Fs : List Frag} {w : World}
set_option maxHeartbeats 8000000 in
theorem ssettle_spec (hL : LexAt W [vm, vd, va] L) (hok : LexOK L) (hs : SCOK L s) (hlt : s.fr < s.nx) (hg : Goes W [] (scF ps vm vd va s :: Fs) w) :
    Calls Tryz.prog 126 #[.pointer (some ⟨ps, 0, none⟩)] w fun e w' => ∃ s', (∃ v, e = .returned v) ∧ Settled L s s' ∧ Goes W [] (scF ps vm vd va s' :: Fs) w' := by
  have hL0 := hL
  obtain ⟨_, _, _, e, hM, hD, hA⟩ := hL
  obtain ⟨rfl, rfl, rfl⟩ : vm = _ ∧ vd = _ ∧ va = _ := by simpa using e
  have hm := hs.m
  have hf := hs.f
  have hr := hs.r
  have hn := hs.n hlt
  have hg0 := hg
  simp only [scF] at hg
  refine enter Tryz.func126 rfl (by simp only [Tryz.ntmps126, List.length_cons, List.length_nil, Nat.reduceAdd, Nat.reduceSub, List.replicate_succ, List.replicate_zero, List.cons_append, List.nil_append]; exact rfl) ?_
  repeat' (first | refine zN ?_ | ((with_reducible refine WQ.nilG ?_); intro w hg) | (refine zB ?_; clear hg; intro b w hg; refine WO.fr ?_) | (refine zW ?_; clear hg; intro w hg; refine WO.fr ?_) | (refine op_pureB hg ?_; clear hg; intro w hg c hc; cases c <;> refine WO.fr ?_))
  have s1 : ∀ {w : World}, (w.heap[ps]? = some (.cells [vm, vd, va, .int .i64 s.at0, .int .i64 s.md0, .int .i64 s.mode, .int .i64 s.fr, .int .i64 s.nx, .int .i64 s.st, .int .i64 s.rule, .int .i64 s.to, .int .i64 s.tok.kind, .int .i64 s.tok.rule, .int .i64 s.tok.fr, .int .i64 s.tok.at', .int .i64 s.tok.to, .int .i64 s.tok.mode, .int .i64 s.reads].toArray 157 (0, 0))) → w.cell? ⟨ps, 3, none⟩ = some (.int .i64 s.at0) := fun h => heap_cell h rfl
  have s2 : ∀ {w : World}, (w.heap[ps]? = some (.cells [vm, vd, va, .int .i64 s.at0, .int .i64 s.md0, .int .i64 s.mode, .int .i64 s.fr, .int .i64 s.nx, .int .i64 s.st, .int .i64 s.rule, .int .i64 s.to, .int .i64 s.tok.kind, .int .i64 s.tok.rule, .int .i64 s.tok.fr, .int .i64 s.tok.at', .int .i64 s.tok.to, .int .i64 s.tok.mode, .int .i64 s.reads].toArray 157 (0, 0))) → w.cell? ⟨ps, 6, none⟩ = some (.int .i64 s.fr) := fun h => heap_cell h rfl
  have s3 : ∀ {w : World}, (w.heap[ps]? = some (.cells [vm, vd, va, .int .i64 s.at0, .int .i64 s.md0, .int .i64 s.mode, .int .i64 s.fr, .int .i64 s.nx, .int .i64 s.st, .int .i64 s.rule, .int .i64 s.to, .int .i64 s.tok.kind, .int .i64 s.tok.rule, .int .i64 s.tok.fr, .int .i64 s.tok.at', .int .i64 s.tok.to, .int .i64 s.tok.mode, .int .i64 s.reads].toArray 157 (0, 0))) → w.cell? ⟨ps, 5, none⟩ = some (.int .i64 s.mode) := fun h => heap_cell h rfl
  refine WC.drawn (fun w => w.heap[ps]? = some (.cells [vm, vd, va, .int .i64 s.at0, .int .i64 s.md0, .int .i64 s.mode, .int .i64 s.fr, .int .i64 s.nx, .int .i64 s.st, .int .i64 s.rule, .int .i64 s.to, .int .i64 s.tok.kind, .int .i64 s.tok.rule, .int .i64 s.tok.fr, .int .i64 s.tok.at', .int .i64 s.tok.to, .int .i64 s.tok.mode, .int .i64 s.reads].toArray 157 (0, 0))) [22] hg ?_
  clear hg
  intro w hg
  have hS : (fun w => w.heap[ps]? = some (.cells [vm, vd, va, .int .i64 s.at0, .int .i64 s.md0, .int .i64 s.mode, .int .i64 s.fr, .int .i64 s.nx, .int .i64 s.st, .int .i64 s.rule, .int .i64 s.to, .int .i64 s.tok.kind, .int .i64 s.tok.rule, .int .i64 s.tok.fr, .int .i64 s.tok.at', .int .i64 s.tok.to, .int .i64 s.tok.mode, .int .i64 s.reads].toArray 157 (0, 0))) w := hg.own (ps, .cells [vm, vd, va, .int .i64 s.at0, .int .i64 s.md0, .int .i64 s.mode, .int .i64 s.fr, .int .i64 s.nx, .int .i64 s.st, .int .i64 s.rule, .int .i64 s.to, .int .i64 s.tok.kind, .int .i64 s.tok.rule, .int .i64 s.tok.fr, .int .i64 s.tok.at', .int .i64 s.tok.to, .int .i64 s.tok.mode, .int .i64 s.reads].toArray 157 (0, 0)) (by simp)
  refine WA.passM 0 hS ?_
  refine WA.passM 1 hS ?_
  refine WA.passM 2 hS ?_
  refine WA.passM 3 hS ?_
  refine WA.passM 5 hS ?_
  refine WA.passM 6 hS ?_
  refine WA.passM 7 hS ?_
  refine WA.passM 8 hS ?_
  refine WA.passM 10 hS ?_
  refine WA.passM 11 hS ?_
  refine WA.passM 12 hS ?_
  refine WA.passM 13 hS ?_
  refine WA.passM 16 hS ?_
  refine WA.passM 17 hS ?_
  refine WA.passM 18 hS ?_
  refine WA.passM 4 hS ?_
  refine WA.passM 9 hS ?_
  refine WA.passM 14 hS ?_
  refine WA.passM 15 hS ?_
  refine WA.passM 19 hS ?_
  refine WA.passM 20 hS ?_
  refine WA.only 21 ?_
  refine op_alloc hg ?_
  clear hg hS
  intro bt w hg
  refine WO.fr ?_
  have hS : (fun w => w.heap[ps]? = some (.cells [vm, vd, va, .int .i64 s.at0, .int .i64 s.md0, .int .i64 s.mode, .int .i64 s.fr, .int .i64 s.nx, .int .i64 s.st, .int .i64 s.rule, .int .i64 s.to, .int .i64 s.tok.kind, .int .i64 s.tok.rule, .int .i64 s.tok.fr, .int .i64 s.tok.at', .int .i64 s.tok.to, .int .i64 s.tok.mode, .int .i64 s.reads].toArray 157 (0, 0))) w := hg.own (ps, .cells [vm, vd, va, .int .i64 s.at0, .int .i64 s.md0, .int .i64 s.mode, .int .i64 s.fr, .int .i64 s.nx, .int .i64 s.st, .int .i64 s.rule, .int .i64 s.to, .int .i64 s.tok.kind, .int .i64 s.tok.rule, .int .i64 s.tok.fr, .int .i64 s.tok.at', .int .i64 s.tok.to, .int .i64 s.tok.mode, .int .i64 s.reads].toArray 157 (0, 0)) (by simp)
  refine WO.nilA hS ?_
  refine WA.only 22 ?_
  refine op_stA hg ?_
  clear hg hS
  intro w hg
  refine WO.fr ?_
  refine WO.nilL ?_
  refine WA.nil ?_
  clear s1 s2 s3
  by_cases h0 : 0 ≤ s.rule
  rotate_left
  · repeat' (first | refine zN ?_ | ((with_reducible refine WQ.nilG ?_); intro w hg) | (refine zB ?_; clear hg; intro b w hg; refine WO.fr ?_) | (refine zW ?_; clear hg; intro w hg; refine WO.fr ?_) | (refine op_pureB hg ?_; clear hg; intro w hg c hc; cases c <;> refine WO.fr ?_))
    refine end0 rfl ⟨{ s with tok := ⟨2, -1, s.at0, s.fr, s.fr + 1, s.mode⟩ }, ⟨_, rfl⟩, ⟨⟨hm, hf, hs.n, hs.st, hr⟩, .inl ⟨by simp [Tok.none], rfl, rfl⟩⟩, (hg.front 1).tail1⟩
  have hra : s.rule.toNat < L.acts.length := by omega
  obtain ⟨aa, ca, rfl, hSa⟩ := hA
  obtain ⟨ba, ka, rfl, _, hrow⟩ := hSa.at (i := s.rule.toNat) (r := (L.acts.getD s.rule.toNat ⟨[], 0⟩).enc) (by simp [List.getD, hra])
  obtain ⟨_, hgo⟩ := hok.a2 s.rule.toNat hra
  generalize L.acts.getD s.rule.toNat ⟨[], 0⟩ = x at hrow hgo
  have hrr : s.rule < L.acts.length ∧ s.fr < s.to ∧ s.to ≤ s.nx := by omega
  repeat' (first | refine zN ?_ | ((with_reducible refine WQ.nilG ?_); intro w hg) | (refine zB ?_; clear hg; intro b w hg; refine WO.fr ?_) | (refine zW ?_; clear hg; intro w hg; refine WO.fr ?_) | (refine op_pureB hg ?_; clear hg; intro w hg c hc; cases c <;> refine WO.fr ?_))
  have s1 : ∀ {w : World}, (w.heap[ps]? = some (.cells [vm, vd, .slice (some ⟨ba, ka, none⟩) L.acts.length ca, .int .i64 s.at0, .int .i64 s.md0, .int .i64 s.mode, .int .i64 s.fr, .int .i64 s.nx, .int .i64 s.st, .int .i64 s.rule, .int .i64 s.to, .int .i64 s.tok.kind, .int .i64 s.tok.rule, .int .i64 s.tok.fr, .int .i64 s.tok.at', .int .i64 s.tok.to, .int .i64 s.tok.mode, .int .i64 s.reads].toArray 157 (0, 0)) ∧ Goes W [] [] w) → w.cell? ⟨ps, 2, none⟩ = some (.slice (some ⟨ba, ka, none⟩) L.acts.length ca) := fun h => heap_cell h.1 rfl
  have s2 : ∀ {w : World}, (w.heap[ps]? = some (.cells [vm, vd, .slice (some ⟨ba, ka, none⟩) L.acts.length ca, .int .i64 s.at0, .int .i64 s.md0, .int .i64 s.mode, .int .i64 s.fr, .int .i64 s.nx, .int .i64 s.st, .int .i64 s.rule, .int .i64 s.to, .int .i64 s.tok.kind, .int .i64 s.tok.rule, .int .i64 s.tok.fr, .int .i64 s.tok.at', .int .i64 s.tok.to, .int .i64 s.tok.mode, .int .i64 s.reads].toArray 157 (0, 0)) ∧ Goes W [] [] w) → w.cell? ⟨ps, 9, none⟩ = some (.int .i64 s.rule) := fun h => heap_cell h.1 rfl
  have t1 : ∀ {w : World}, (w.heap[ps]? = some (.cells [vm, vd, .slice (some ⟨ba, ka, none⟩) L.acts.length ca, .int .i64 s.at0, .int .i64 s.md0, .int .i64 s.mode, .int .i64 s.fr, .int .i64 s.nx, .int .i64 s.st, .int .i64 s.rule, .int .i64 s.to, .int .i64 s.tok.kind, .int .i64 s.tok.rule, .int .i64 s.tok.fr, .int .i64 s.tok.at', .int .i64 s.tok.to, .int .i64 s.tok.mode, .int .i64 s.reads].toArray 157 (0, 0)) ∧ Goes W [] [] w) → Cells w ⟨ba, ka + s.rule.toNat * 2, none⟩ [.string (str x.emit), .int .i64 x.goto] := fun h => h.2.cells0 hrow
  refine WC.drawn (fun w => w.heap[ps]? = some (.cells [vm, vd, .slice (some ⟨ba, ka, none⟩) L.acts.length ca, .int .i64 s.at0, .int .i64 s.md0, .int .i64 s.mode, .int .i64 s.fr, .int .i64 s.nx, .int .i64 s.st, .int .i64 s.rule, .int .i64 s.to, .int .i64 s.tok.kind, .int .i64 s.tok.rule, .int .i64 s.tok.fr, .int .i64 s.tok.at', .int .i64 s.tok.to, .int .i64 s.tok.mode, .int .i64 s.reads].toArray 157 (0, 0)) ∧ Goes W [] [] w) [13] hg ?_
  clear hg
  intro w hg
  have hS : (fun w => w.heap[ps]? = some (.cells [vm, vd, .slice (some ⟨ba, ka, none⟩) L.acts.length ca, .int .i64 s.at0, .int .i64 s.md0, .int .i64 s.mode, .int .i64 s.fr, .int .i64 s.nx, .int .i64 s.st, .int .i64 s.rule, .int .i64 s.to, .int .i64 s.tok.kind, .int .i64 s.tok.rule, .int .i64 s.tok.fr, .int .i64 s.tok.at', .int .i64 s.tok.to, .int .i64 s.tok.mode, .int .i64 s.reads].toArray 157 (0, 0)) ∧ Goes W [] [] w) w := ⟨hg.own (ps, .cells [vm, vd, .slice (some ⟨ba, ka, none⟩) L.acts.length ca, .int .i64 s.at0, .int .i64 s.md0, .int .i64 s.mode, .int .i64 s.fr, .int .i64 s.nx, .int .i64 s.st, .int .i64 s.rule, .int .i64 s.to, .int .i64 s.tok.kind, .int .i64 s.tok.rule, .int .i64 s.tok.fr, .int .i64 s.tok.at', .int .i64 s.tok.to, .int .i64 s.tok.mode, .int .i64 s.reads].toArray 157 (0, 0)) (by simp), hg.drop⟩
  refine WA.passM 0 hS ?_
  refine WA.passM 1 hS ?_
  refine WA.passM 2 hS ?_
  refine WA.passM 3 hS ?_
  refine WA.passM 5 hS ?_
  refine WA.passM 6 hS ?_
  refine WA.passM 7 hS ?_
  refine WA.passM 8 hS ?_
  refine WA.passM 4 hS ?_
  refine WA.passM 9 hS ?_
  refine WA.passM 10 hS ?_
  refine WA.passM 11 hS ?_
  refine WA.only 12 ?_
  refine op_alloc hg ?_
  clear hg hS
  intro bx w hg
  refine WO.fr ?_
  have hS : (fun w => w.heap[ps]? = some (.cells [vm, vd, .slice (some ⟨ba, ka, none⟩) L.acts.length ca, .int .i64 s.at0, .int .i64 s.md0, .int .i64 s.mode, .int .i64 s.fr, .int .i64 s.nx, .int .i64 s.st, .int .i64 s.rule, .int .i64 s.to, .int .i64 s.tok.kind, .int .i64 s.tok.rule, .int .i64 s.tok.fr, .int .i64 s.tok.at', .int .i64 s.tok.to, .int .i64 s.tok.mode, .int .i64 s.reads].toArray 157 (0, 0)) ∧ Goes W [] [] w) w := ⟨hg.own (ps, .cells [vm, vd, .slice (some ⟨ba, ka, none⟩) L.acts.length ca, .int .i64 s.at0, .int .i64 s.md0, .int .i64 s.mode, .int .i64 s.fr, .int .i64 s.nx, .int .i64 s.st, .int .i64 s.rule, .int .i64 s.to, .int .i64 s.tok.kind, .int .i64 s.tok.rule, .int .i64 s.tok.fr, .int .i64 s.tok.at', .int .i64 s.tok.to, .int .i64 s.tok.mode, .int .i64 s.reads].toArray 157 (0, 0)) (by simp), hg.drop⟩
  refine WO.nilA hS ?_
  refine WA.only 13 ?_
  refine op_stA hg ?_
  clear hg hS
  intro w hg
  refine WO.fr ?_
  refine WO.nilL ?_
  refine WA.nil ?_
  clear t1 s1
  repeat' (first | refine zN ?_ | ((with_reducible refine WQ.nilG ?_); intro w hg) | (refine zB ?_; clear hg; intro b w hg; refine WO.fr ?_) | (refine zW ?_; clear hg; intro w hg; refine WO.fr ?_) | (refine op_pureB hg ?_; clear hg; intro w hg c hc; cases c <;> refine WO.fr ?_))
  have s3 : ∀ {w : World}, (w.heap[ps]? = some (.cells [vm, vd, .slice (some ⟨ba, ka, none⟩) L.acts.length ca, .int .i64 s.at0, .int .i64 s.md0, .int .i64 s.mode, .int .i64 s.fr, .int .i64 s.nx, .int .i64 s.st, .int .i64 s.rule, .int .i64 s.to, .int .i64 s.tok.kind, .int .i64 s.tok.rule, .int .i64 s.tok.fr, .int .i64 s.tok.at', .int .i64 s.tok.to, .int .i64 s.tok.mode, .int .i64 s.reads].toArray 157 (0, 0)) ∧ Goes W [] [] w) → w.cell? ⟨ps, 10, none⟩ = some (.int .i64 s.to) := fun h => heap_cell h.1 rfl
  refine WC.drawn (fun w => w.heap[ps]? = some (.cells [vm, vd, .slice (some ⟨ba, ka, none⟩) L.acts.length ca, .int .i64 s.at0, .int .i64 s.md0, .int .i64 s.mode, .int .i64 s.fr, .int .i64 s.nx, .int .i64 s.st, .int .i64 s.rule, .int .i64 s.to, .int .i64 s.tok.kind, .int .i64 s.tok.rule, .int .i64 s.tok.fr, .int .i64 s.tok.at', .int .i64 s.tok.to, .int .i64 s.tok.mode, .int .i64 s.reads].toArray 157 (0, 0)) ∧ Goes W [] [] w) [] hg ?_
  clear hg
  intro w hg
  have hS : (fun w => w.heap[ps]? = some (.cells [vm, vd, .slice (some ⟨ba, ka, none⟩) L.acts.length ca, .int .i64 s.at0, .int .i64 s.md0, .int .i64 s.mode, .int .i64 s.fr, .int .i64 s.nx, .int .i64 s.st, .int .i64 s.rule, .int .i64 s.to, .int .i64 s.tok.kind, .int .i64 s.tok.rule, .int .i64 s.tok.fr, .int .i64 s.tok.at', .int .i64 s.tok.to, .int .i64 s.tok.mode, .int .i64 s.reads].toArray 157 (0, 0)) ∧ Goes W [] [] w) w := ⟨hg.own (ps, .cells [vm, vd, .slice (some ⟨ba, ka, none⟩) L.acts.length ca, .int .i64 s.at0, .int .i64 s.md0, .int .i64 s.mode, .int .i64 s.fr, .int .i64 s.nx, .int .i64 s.st, .int .i64 s.rule, .int .i64 s.to, .int .i64 s.tok.kind, .int .i64 s.tok.rule, .int .i64 s.tok.fr, .int .i64 s.tok.at', .int .i64 s.tok.to, .int .i64 s.tok.mode, .int .i64 s.reads].toArray 157 (0, 0)) (by simp), hg.drop⟩
  refine WA.passM 0 hS ?_
  refine WA.passM 1 hS ?_
  refine WA.passM 2 hS ?_
  refine WA.passM 3 hS ?_
  refine WA.passM 5 hS ?_
  refine WA.passM 6 hS ?_
  refine WA.passM 7 hS ?_
  refine WA.passM 8 hS ?_
  refine WA.passM 10 hS ?_
  refine WA.passM 4 hS ?_
  refine WA.passM 9 hS ?_
  refine WA.only 11 ?_
  refine op_st hg ?_
  clear hg hS
  intro w hg
  refine WO.fr ?_
  have hS : (fun w => w.heap[ps]? = some (.cells [vm, vd, .slice (some ⟨ba, ka, none⟩) L.acts.length ca, .int .i64 s.at0, .int .i64 s.md0, .int .i64 s.mode, .int .i64 s.fr, .int .i64 s.nx, .int .i64 s.st, .int .i64 s.rule, .int .i64 s.to, .int .i64 s.tok.kind, .int .i64 s.tok.rule, .int .i64 s.tok.fr, .int .i64 s.tok.at', .int .i64 s.tok.to, .int .i64 s.tok.mode, .int .i64 s.reads].toArray 157 (0, 0)) ∧ Goes W [] [] w) w := ⟨hg.own (ps, .cells [vm, vd, .slice (some ⟨ba, ka, none⟩) L.acts.length ca, .int .i64 s.at0, .int .i64 s.md0, .int .i64 s.mode, .int .i64 s.fr, .int .i64 s.nx, .int .i64 s.st, .int .i64 s.rule, .int .i64 s.to, .int .i64 s.tok.kind, .int .i64 s.tok.rule, .int .i64 s.tok.fr, .int .i64 s.tok.at', .int .i64 s.tok.to, .int .i64 s.tok.mode, .int .i64 s.reads].toArray 157 (0, 0)) (by simp), hg.drop⟩
  refine WO.nilA hS ?_
  refine WA.passM 12 hS ?_
  refine WA.only 13 ?_
  refine op_st hg ?_
  clear hg hS
  intro w hg
  refine WO.fr ?_
  have hS : (fun w => w.heap[ps]? = some (.cells [vm, vd, .slice (some ⟨ba, ka, none⟩) L.acts.length ca, .int .i64 s.at0, .int .i64 s.md0, .int .i64 s.mode, .int .i64 s.fr, .int .i64 s.nx, .int .i64 s.st, .int .i64 s.rule, .int .i64 s.to, .int .i64 s.tok.kind, .int .i64 s.tok.rule, .int .i64 s.tok.fr, .int .i64 s.tok.at', .int .i64 s.tok.to, .int .i64 s.tok.mode, .int .i64 s.reads].toArray 157 (0, 0)) ∧ Goes W [] [] w) w := ⟨hg.own (ps, .cells [vm, vd, .slice (some ⟨ba, ka, none⟩) L.acts.length ca, .int .i64 s.at0, .int .i64 s.md0, .int .i64 s.mode, .int .i64 s.fr, .int .i64 s.nx, .int .i64 s.st, .int .i64 s.rule, .int .i64 s.to, .int .i64 s.tok.kind, .int .i64 s.tok.rule, .int .i64 s.tok.fr, .int .i64 s.tok.at', .int .i64 s.tok.to, .int .i64 s.tok.mode, .int .i64 s.reads].toArray 157 (0, 0)) (by simp), hg.drop⟩
  refine WO.nilA hS ?_
  refine WA.passM 14 hS ?_
  refine WA.only 15 ?_
  refine op_st hg ?_
  clear hg hS
  intro w hg
  refine WO.fr ?_
  have hS : (fun w => w.heap[ps]? = some (.cells [vm, vd, .slice (some ⟨ba, ka, none⟩) L.acts.length ca, .int .i64 s.at0, .int .i64 s.md0, .int .i64 s.mode, .int .i64 s.fr, .int .i64 s.nx, .int .i64 s.st, .int .i64 s.rule, .int .i64 s.to, .int .i64 s.tok.kind, .int .i64 s.tok.rule, .int .i64 s.tok.fr, .int .i64 s.tok.at', .int .i64 s.tok.to, .int .i64 s.tok.mode, .int .i64 s.reads].toArray 157 (0, 0)) ∧ Goes W [] [] w) w := ⟨hg.own (ps, .cells [vm, vd, .slice (some ⟨ba, ka, none⟩) L.acts.length ca, .int .i64 s.at0, .int .i64 s.md0, .int .i64 s.mode, .int .i64 s.fr, .int .i64 s.nx, .int .i64 s.st, .int .i64 s.rule, .int .i64 s.to, .int .i64 s.tok.kind, .int .i64 s.tok.rule, .int .i64 s.tok.fr, .int .i64 s.tok.at', .int .i64 s.tok.to, .int .i64 s.tok.mode, .int .i64 s.reads].toArray 157 (0, 0)) (by simp), hg.drop⟩
  refine WO.nilA hS ?_
  refine WA.nil ?_
  clear hS s2 s3
  have hto : 0 ≤ s.to := by omega
  have hmode : ∀ m : Int, (m = s.mode ∨ m = x.goto ∧ 0 ≤ x.goto) → 0 ≤ m ∧ m < L.modes.length := fun m h => by omega
  have heq : (str x.emit == ⟨#[]⟩) = decide (x.emit = []) := by rw [show (⟨#[]⟩ : ByteArray) = str [] from rfl, str_beq]
  have p1 : ∀ (m : Int) {w Fs}, Goes W [] Fs w → Calls Tryz.prog 33 #[.agg [.int .i64 1, .int .i64 s.rule, .int .i64 s.at0, .int .i64 s.fr, .int .i64 s.to, .int .i64 m].toArray] w _ := fun m {w Fs} _ => behind_spec w ⟨1, s.rule, s.at0, s.fr, s.to, m⟩
  by_cases hgo0 : 0 ≤ x.goto
  · repeat' (first | refine zN ?_ | ((with_reducible refine WQ.nilG ?_); intro w hg) | (refine zB ?_; clear hg; intro b w hg; refine WO.fr ?_) | (refine zW ?_; clear hg; intro w hg; refine WO.fr ?_) | (refine op_pureB hg ?_; clear hg; intro w hg c hc; cases c <;> refine WO.fr ?_))
    rw [heq]
    by_cases he : x.emit = []
    · rw [decide_eq_true he]
      have p2 := fun {w Fs} => @p1 x.goto w Fs
      clear p1
      have p1 := fun {w Fs} => @p2 w Fs
      repeat' (first | refine zN ?_ | ((with_reducible refine WQ.nilG ?_); intro w hg) | (refine zB ?_; clear hg; intro b w hg; refine WO.fr ?_) | (refine zW ?_; clear hg; intro w hg; refine WO.fr ?_) | (refine op_pureB hg ?_; clear hg; intro w hg c hc; cases c <;> refine WO.fr ?_))
      refine op_call (sbegin_spec s.to x.goto hL0 hok (hmode _ (.inr ⟨rfl, hgo0⟩)) (hg.front 2)) ?_
      rintro _ w2 ⟨⟨v, rfl⟩, hg2⟩
      clear hg
      refine ⟨_, rfl, ?_⟩
      refine WO.fr ?_
      have hg := hg2
      repeat' (first | refine zN ?_ | ((with_reducible refine WQ.nilG ?_); intro w hg) | (refine zB ?_; clear hg; intro b w hg; refine WO.fr ?_) | (refine zW ?_; clear hg; intro w hg; refine WO.fr ?_) | (refine op_pureB hg ?_; clear hg; intro w hg c hc; cases c <;> refine WO.fr ?_))
      exact ret0 rfl ⟨_, ⟨_, rfl⟩, ⟨fresh_ok hok (hmode _ (.inr ⟨rfl, hgo0⟩)) hto, .inr ⟨rfl, hrr.2.1, hrr.2.2, rfl⟩⟩, hg.tail1.tail1⟩
    · rw [decide_eq_false he]
      repeat' (first | refine zN ?_ | ((with_reducible refine WQ.nilG ?_); intro w hg) | (refine zB ?_; clear hg; intro b w hg; refine WO.fr ?_) | (refine zW ?_; clear hg; intro w hg; refine WO.fr ?_) | (refine op_pureB hg ?_; clear hg; intro w hg c hc; cases c <;> refine WO.fr ?_))
      refine end0 rfl ⟨{ s with tok := ⟨1, s.rule, s.at0, s.fr, s.to, x.goto⟩ }, ⟨_, rfl⟩, ⟨⟨hm, hf, hs.n, hs.st, hr⟩, .inl ⟨by simp [Tok.none], rfl, rfl⟩⟩, (hg.front 2).tail1.tail1⟩
  · repeat' (first | refine zN ?_ | ((with_reducible refine WQ.nilG ?_); intro w hg) | (refine zB ?_; clear hg; intro b w hg; refine WO.fr ?_) | (refine zW ?_; clear hg; intro w hg; refine WO.fr ?_) | (refine op_pureB hg ?_; clear hg; intro w hg c hc; cases c <;> refine WO.fr ?_))
    rw [heq]
    by_cases he : x.emit = []
    · rw [decide_eq_true he]
      have p2 := fun {w Fs} => @p1 s.mode w Fs
      clear p1
      have p1 := fun {w Fs} => @p2 w Fs
      repeat' (first | refine zN ?_ | ((with_reducible refine WQ.nilG ?_); intro w hg) | (refine zB ?_; clear hg; intro b w hg; refine WO.fr ?_) | (refine zW ?_; clear hg; intro w hg; refine WO.fr ?_) | (refine op_pureB hg ?_; clear hg; intro w hg c hc; cases c <;> refine WO.fr ?_))
      refine op_call (sbegin_spec s.to s.mode hL0 hok (hmode _ (.inl rfl)) (hg.front 2)) ?_
      rintro _ w2 ⟨⟨v, rfl⟩, hg2⟩
      clear hg
      refine ⟨_, rfl, ?_⟩
      refine WO.fr ?_
      have hg := hg2
      repeat' (first | refine zN ?_ | ((with_reducible refine WQ.nilG ?_); intro w hg) | (refine zB ?_; clear hg; intro b w hg; refine WO.fr ?_) | (refine zW ?_; clear hg; intro w hg; refine WO.fr ?_) | (refine op_pureB hg ?_; clear hg; intro w hg c hc; cases c <;> refine WO.fr ?_))
      exact ret0 rfl ⟨_, ⟨_, rfl⟩, ⟨fresh_ok hok (hmode _ (.inl rfl)) hto, .inr ⟨rfl, hrr.2.1, hrr.2.2, rfl⟩⟩, hg.tail1.tail1⟩
    · rw [decide_eq_false he]
      repeat' (first | refine zN ?_ | ((with_reducible refine WQ.nilG ?_); intro w hg) | (refine zB ?_; clear hg; intro b w hg; refine WO.fr ?_) | (refine zW ?_; clear hg; intro w hg; refine WO.fr ?_) | (refine op_pureB hg ?_; clear hg; intro w hg c hc; cases c <;> refine WO.fr ?_))
      refine end0 rfl ⟨{ s with tok := ⟨1, s.rule, s.at0, s.fr, s.to, s.mode⟩ }, ⟨_, rfl⟩, ⟨⟨hm, hf, hs.n, hs.st, hr⟩, .inl ⟨by simp [Tok.none], rfl, rfl⟩⟩, (hg.front 2).tail1.tail1⟩
end
end Go.Proofs.YtkdidefghbeabaaGreat
