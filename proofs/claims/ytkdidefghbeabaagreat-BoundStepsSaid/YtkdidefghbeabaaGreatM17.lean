/- The cursor: where a scanner's slot lies; next. -/
import Derived.Test.YtkdidefghbeabaaGreatM07
import Derived.Test.YtkdidefghbeabaaGreatM15
import Derived.Test.YtkdidefghbeabaaGreatM16
namespace Go.Proofs.YtkdidefghbeabaaGreat
open Go Go.RowKit
set_option maxRecDepth 10000
set_option linter.unusedSimpArgs false
set_option linter.unusedVariables false

def ptrO (v : Option Nat) : Value := .pointer (v.map fun b => ⟨b, 0, none⟩)
/-- What lies in a slot for a scanner. -/
inductive SlotOK (vm vd va : Value) (L : PLex) : Option Nat → Frag → Option SC → Prop
  | nil : SlotOK vm vd va L none [] none
  | some {ps : Nat} {s : SC} (h : SCOK L s) (ht : s.tok = Tok.none) : SlotOK vm vd va L (some ps) (scF ps vm vd va s) (some s)
def mO (B E : Nat) : Option SC → Nat
  | none => B + B * B
  | some s => s.m B E
def nearO (B E : Nat) : Option SC → Prop
  | none => True
  | some s => s.near B E
/-- A cursor at pc, and a slot at b and k, as they lie, whatever the slot holds. -/
structure SlotAt (pc pw b k : Nat) (p : Prm) (cl : Bool) (vm vd va : Value) (K : Option Nat → Frag) : Prop where
  c10 : ∀ v (w : World), (∀ q ∈ K v, w.heap[q.1]? = some q.2) → w.cell? ⟨pc, 10, none⟩ = some (.pointer (some ⟨pw, 0, none⟩))
  c11 : ∀ v (w : World), (∀ q ∈ K v, w.heap[q.1]? = some q.2) → w.cell? ⟨pc, 11, none⟩ = some (.bool cl)
  c9 : ∀ v (w : World), (∀ q ∈ K v, w.heap[q.1]? = some q.2) → w.cell? ⟨pc, 9, none⟩ = some (.int .i64 p.step)
  c0 : ∀ v (w : World), (∀ q ∈ K v, w.heap[q.1]? = some q.2) → Cells w ⟨pc, 0, none⟩ [vm, vd, va]
  ck : ∀ v (w : World), (∀ q ∈ K v, w.heap[q.1]? = some q.2) → w.cell? ⟨b, k, none⟩ = some (ptrO v)
  tk : ∀ v v', ∃ (bl : List Value) (et : TypeId), k < bl.length ∧ ∀ Fs, Turn b (.cells bl.toArray et (0, 0)) (.cells (bl.set k (ptrO v')).toArray et (0, 0)) (K v :: Fs) (K v' :: Fs)
structure Nxt (B E : Nat) (σ σ' : Option SC) (kn st : Bool) : Prop where
  k : kn = true → st = false ∧ σ' = none
  m : nearO B E σ → nearO B E σ' ∧ (kn = false → st = false → mO B E σ' < mO B E σ)

theorem Goes.own0 {w0 w : World} {M : List Nat} {f : Frag} {Fs : List Frag} (h : Goes w0 M (f :: Fs) w) : ∀ q ∈ f, w.heap[q.1]? = some q.2 := fun q hq => h.own q (by simp [hq])
theorem sStep_nil (w0 : World) (x : Value) (c : Bool) (n : Int) : Calls Tryz.prog 63 #[.pointer none, x, .bool c, .int .i64 n] w0 fun e w' => e = .returned (.int .i64 2) ∧ Goes w0 [] [] w' := by
  have hg := Goes.refl w0
  refine enter Tryz.func63 rfl (by simp only [Tryz.ntmps63, List.length_cons, List.length_nil, Nat.reduceAdd, Nat.reduceSub, List.replicate_succ, List.replicate_zero, List.cons_append, List.nil_append]; exact rfl) ?_
  repeat' (first | refine zN ?_ | (refine WC.quietG hg ?_; clear hg) | ((with_reducible refine WQ.nilG ?_); intro w hg) | (refine zB ?_; clear hg; intro b w hg; refine WO.fr ?_) | (refine zW ?_; clear hg; intro w hg; refine WO.fr ?_) | (refine op_pureB hg ?_; clear hg; intro w hg c hc; cases c <;> refine WO.fr ?_))
  exact ret1 rfl ⟨rfl, hg.drop⟩
theorem Turn.n3 {b : Nat} {o o' : Obj} {f1 f2 f3 : Frag} {Fs Fs' : List Frag} (h : Turn b o o' Fs Fs') : Turn b o o' (f1 :: f2 :: f3 :: Fs) (f1 :: f2 :: f3 :: Fs') := .next (.next (.next h))
theorem Goes.lose {w0 w : World} {M : List Nat} {f1 f2 f3 f4 f5 f6 : Frag} {Fs : List Frag} (h : Goes w0 M (f1 :: f2 :: f3 :: f4 :: f5 :: f6 :: Fs) w) : Goes w0 M (f1 :: f2 :: f3 :: f4 :: f5 :: [] :: Fs) w := h.sub (by simp)
theorem Goes.back3 {w0 w : World} {M : List Nat} {f1 f2 f3 : Frag} {Fs : List Frag} (h : Goes w0 M (f1 :: f2 :: f3 :: Fs) w) : Goes w0 M Fs w := h.drop0.drop0.drop0
theorem Goes.noNil6 {w0 w : World} {M : List Nat} {f1 f2 f3 f4 f5 f6 : Frag} {Fs : List Frag} (h : Goes w0 M (f1 :: f2 :: f3 :: f4 :: f5 :: f6 :: [] :: Fs) w) : Goes w0 M (f1 :: f2 :: f3 :: f4 :: f5 :: f6 :: Fs) w := h.perm (by simp)
theorem Goes.fin7 {w0 w : World} {M : List Nat} {f1 f2 f3 g1 g2 g3 g4 : Frag} {Fs : List Frag} (h : Goes w0 M (f1 :: f2 :: f3 :: g1 :: g2 :: g3 :: g4 :: Fs) w) : Goes w0 M (f1 :: f2 :: [] :: Fs) w := h.sub (by
  simp only [List.flatten_cons, List.nil_append, ← List.append_assoc]
  refine List.Sublist.append_right ?_ _
  simp only [List.append_assoc, List.append_nil]
  exact (List.Sublist.refl f1).append (List.sublist_append_left _ _))
theorem Goes.rot6 {w0 w : World} {M : List Nat} {f1 f2 g1 g2 g3 g4 : Frag} {Fs : List Frag} (hg : Goes w0 M (f1 :: f2 :: g1 :: g2 :: g3 :: g4 :: Fs) w) : Goes w0 M (g1 :: g2 :: g3 :: g4 :: f2 :: f1 :: Fs) w := (((((hg.front 1).front 5).front 5).front 5).front 5)
theorem keep_same {B : Int} {s : WS} {e : CE} : (s.keep B e).fl = s.fl ∧ (s.keep B e).low = s.low ∧ (s.keep B e).all = s.all := by
  unfold WS.keep
  split
  · exact ⟨rfl, rfl, rfl⟩
  · split <;> exact ⟨rfl, rfl, rfl⟩
theorem getV_is (o : Option CE) : ∃ (tk : Tok) (bb : Bool), getV o = .tuple #[.agg tk.enc.toArray, .bool bb] := by
  cases o with
  | none => exact ⟨_, _, rfl⟩
  | some e => exact ⟨_, _, rfl⟩
section
variable {W : World} {pc pw sb k : Nat} {p : Prm} {cl : Bool} {vm vd va : Value} {L : PLex} {K : Option Nat → Frag} {s : WS} {fw fs : Frag} {Fs : List Frag} {w : World} {v : Option Nat} {σ : Option SC}
set_option maxHeartbeats 8000000 in
theorem next_spec {B : Nat} (a m : Int) (hB : p.bytes = B) (hp : p.right = true) (hKs : SlotAt pc pw sb k p cl vm vd va K) (hL : LexAt W [vm, vd, va] L) (hok : LexOK L) (hW : WinF pw p s fw) (hK2 : WOK p.bytes s) (hal : s.all.length ≤ 100000) (hSl : SlotOK vm vd va L v fs σ) (hg : Goes W [] (K v :: fw :: fs :: Fs) w) :
    Calls Tryz.prog 32 #[.pointer (some ⟨pc, 0, none⟩), .agg [.int .i64 a, .int .i64 m].toArray, .pointer (some ⟨sb, k, none⟩)] w fun e w' => ∃ (t : Tok) (kn st : Bool) (v' : Option Nat) (fs' : Frag) (σ' : Option SC) (fw' : Frag) (s' : WS), e = .returned (.tuple #[.agg t.enc.toArray, .bool kn, .bool st]) ∧ SlotOK vm vd va L v' fs' σ' ∧ Nxt B s.all.length σ σ' kn st ∧ WinF pw p s' fw' ∧ WOK p.bytes s' ∧ s'.fl = s.fl ∧ s'.low = s.low ∧ s'.all = s.all ∧ Goes W [] (K v' :: fw' :: fs' :: Fs) w' := by
  obtain ⟨t0, bb, hv⟩ := getV_is (rget s.ws a m)
  have hst := right_iff.1 hp
  have s1 : ∀ {ba : Nat} {w : World}, ((∃ v, ∀ q ∈ K v, w.heap[q.1]? = some q.2) ∧ w.heap[ba]? = some (.cells [.int .i64 a, .int .i64 m].toArray 69 (0, 0))) → w.cell? ⟨pc, 10, none⟩ = some (.pointer (some ⟨pw, 0, none⟩)) := fun h => hKs.c10 _ _ h.1.choose_spec
  have s2 : ∀ {ba : Nat} {w : World}, ((∃ v, ∀ q ∈ K v, w.heap[q.1]? = some q.2) ∧ w.heap[ba]? = some (.cells [.int .i64 a, .int .i64 m].toArray 69 (0, 0))) → w.cell? ⟨pc, 11, none⟩ = some (.bool cl) := fun h => hKs.c11 _ _ h.1.choose_spec
  have s3 : ∀ {ba : Nat} {w : World}, ((∃ v, ∀ q ∈ K v, w.heap[q.1]? = some q.2) ∧ w.heap[ba]? = some (.cells [.int .i64 a, .int .i64 m].toArray 69 (0, 0))) → w.cell? ⟨pc, 9, none⟩ = some (.int .i64 p.step) := fun h => hKs.c9 _ _ h.1.choose_spec
  have t1 : ∀ {ba : Nat} {w : World}, ((∃ v, ∀ q ∈ K v, w.heap[q.1]? = some q.2) ∧ w.heap[ba]? = some (.cells [.int .i64 a, .int .i64 m].toArray 69 (0, 0))) → Cells w ⟨pc, 0, none⟩ [vm, vd, va] := fun h => hKs.c0 _ _ h.1.choose_spec
  have t2 : ∀ {ba : Nat} {w : World}, ((∃ v, ∀ q ∈ K v, w.heap[q.1]? = some q.2) ∧ w.heap[ba]? = some (.cells [.int .i64 a, .int .i64 m].toArray 69 (0, 0))) → Cells w ⟨ba, 0, none⟩ [.int .i64 a, .int .i64 m] := fun h => heap_cells h.2 rfl
  refine enter Tryz.func32 rfl (by simp only [Tryz.ntmps32, List.length_cons, List.length_nil, Nat.reduceAdd, Nat.reduceSub, List.replicate_succ, List.replicate_zero, List.cons_append, List.nil_append]; exact rfl) ?_
  repeat' (first | refine zN ?_ | ((with_reducible refine WQ.nilG ?_); intro w hg) | (refine zB ?_; clear hg; intro b w hg; refine WO.fr ?_) | (refine zW ?_; clear hg; intro w hg; refine WO.fr ?_) | (refine op_pureB hg ?_; clear hg; intro w hg c hc; cases c <;> refine WO.fr ?_))
  rename_i ba _
  obtain ⟨br, rfl⟩ : ∃ z, z = b := ⟨b, rfl⟩
  refine WC.cut [9, 10, 14, 15, 16, 17, 18, 19, 20, 21, 22] (fun xs w => ∃ bt, (gt xs 0) = .pointer (some ⟨bt, 0, none⟩) ∧ (gt xs 1) = .bool bb ∧ Goes W [] ([(bt, .cells [.int .i64 t0.kind, .int .i64 t0.rule, .int .i64 t0.fr, .int .i64 t0.at', .int .i64 t0.to, .int .i64 t0.mode].toArray 48 (0, 0))] :: [(br, .cells [.int .i64 0, .int .i64 0, .int .i64 0, .int .i64 0, .int .i64 0, .int .i64 0].toArray 48 (0, 0))] :: [(ba, .cells [.int .i64 a, .int .i64 m].toArray 69 (0, 0))] :: K v :: fw :: fs :: Fs) w) ?_ ?_
  · have hkn : ∀ {w : World}, Owns w fw → Calls Tryz.prog 60 #[.pointer (some ⟨pw, 0, none⟩), .agg [.int .i64 a, .int .i64 m].toArray] w fun e w' => e = .returned (.tuple #[.agg t0.enc.toArray, .bool bb]) ∧ Goes w (keys fw) [fw] w' := fun ho => by rw [← hv]; exact wKnown_spec a m hW ho
    simp only [Tok.enc] at hkn
    refine WC.drawn (fun w => (∃ v, ∀ q ∈ K v, w.heap[q.1]? = some q.2) ∧ w.heap[ba]? = some (.cells [.int .i64 a, .int .i64 m].toArray 69 (0, 0))) [] hg ?_
    clear hg
    intro w hg
    have hS : (fun w => (∃ v, ∀ q ∈ K v, w.heap[q.1]? = some q.2) ∧ w.heap[ba]? = some (.cells [.int .i64 a, .int .i64 m].toArray 69 (0, 0))) w := ⟨⟨v, fun q hq => hg.own q (by simp [hq])⟩, hg.own (ba, .cells [.int .i64 a, .int .i64 m].toArray 69 (0, 0)) (by simp)⟩
    refine WA.passM 0 hS ?_
    refine WA.passM 1 hS ?_
    refine WA.passM 2 hS ?_
    refine WA.passM 3 hS ?_
    refine WA.passM 4 hS ?_
    refine WA.two 5 9 ?_ ?_
    · refine op_call (hkn (hg.front 3).owns1) ?_
      rintro _ w ⟨rfl, hg2⟩
      replace hg := (hg.front 3).callF hg2
      clear hg2 hS
      refine ⟨_, rfl, ?_⟩
      refine WO.fr ?_
      have hS : (fun w => (∃ v, ∀ q ∈ K v, w.heap[q.1]? = some q.2) ∧ w.heap[ba]? = some (.cells [.int .i64 a, .int .i64 m].toArray 69 (0, 0))) w := ⟨⟨v, fun q hq => hg.own q (by simp [hq])⟩, hg.own (ba, .cells [.int .i64 a, .int .i64 m].toArray 69 (0, 0)) (by simp)⟩
      refine WO.nilA hS ?_
      refine WA.passM 6 hS ?_
      refine WA.passM 7 hS ?_
      refine WA.passM 8 hS ?_
      refine WA.only 9 ?_
      refine op_alloc hg ?_
      clear hg hS
      intro bt w hg
      refine WO.fr ?_
      have hS : (fun w => (∃ v, ∀ q ∈ K v, w.heap[q.1]? = some q.2) ∧ w.heap[ba]? = some (.cells [.int .i64 a, .int .i64 m].toArray 69 (0, 0))) w := ⟨⟨v, fun q hq => hg.own q (by simp [hq])⟩, hg.own (ba, .cells [.int .i64 a, .int .i64 m].toArray 69 (0, 0)) (by simp)⟩
      refine WO.nilA hS ?_
      refine WA.only 10 ?_
      refine op_stA hg ?_
      clear hg hS
      intro w hg
      refine WO.fr ?_
      have hS : (fun w => (∃ v, ∀ q ∈ K v, w.heap[q.1]? = some q.2) ∧ w.heap[ba]? = some (.cells [.int .i64 a, .int .i64 m].toArray 69 (0, 0))) w := ⟨⟨v, fun q hq => hg.own q (by simp [hq])⟩, hg.own (ba, .cells [.int .i64 a, .int .i64 m].toArray 69 (0, 0)) (by simp)⟩
      refine WO.nilA hS ?_
      refine WA.passM 11 hS ?_
      refine WA.nil ?_
      with_reducible refine CutQ.mk ?_ ?_
      · simp only [setAll, List.map_cons, List.map_nil, gt, List.set_cons_succ, List.set_cons_zero]
      try simp only [List.map_cons, List.map_nil, gt]
      exact ⟨bt, by trivial, by trivial, (((((hg.front 1).front 4).front 4).front 4).front 4)⟩
    · refine op_alloc hg ?_
      clear hg hS
      intro bt w hg
      refine WO.fr ?_
      have hS : (fun w => (∃ v, ∀ q ∈ K v, w.heap[q.1]? = some q.2) ∧ w.heap[ba]? = some (.cells [.int .i64 a, .int .i64 m].toArray 69 (0, 0))) w := ⟨⟨v, fun q hq => hg.own q (by simp [hq])⟩, hg.own (ba, .cells [.int .i64 a, .int .i64 m].toArray 69 (0, 0)) (by simp)⟩
      refine WO.nilA hS ?_
      refine WA.only 5 ?_
      refine op_call (hkn (hg.front 4).owns1) ?_
      rintro _ w ⟨rfl, hg2⟩
      replace hg := (hg.front 4).callF hg2
      clear hg2 hS
      refine ⟨_, rfl, ?_⟩
      refine WO.fr ?_
      have hS : (fun w => (∃ v, ∀ q ∈ K v, w.heap[q.1]? = some q.2) ∧ w.heap[ba]? = some (.cells [.int .i64 a, .int .i64 m].toArray 69 (0, 0))) w := ⟨⟨v, fun q hq => hg.own q (by simp [hq])⟩, hg.own (ba, .cells [.int .i64 a, .int .i64 m].toArray 69 (0, 0)) (by simp)⟩
      refine WO.nilA hS ?_
      refine WA.passM 6 hS ?_
      refine WA.passM 7 hS ?_
      refine WA.passM 8 hS ?_
      refine WA.only 10 ?_
      refine op_stA hg ?_
      clear hg hS
      intro w hg
      refine WO.fr ?_
      have hS : (fun w => (∃ v, ∀ q ∈ K v, w.heap[q.1]? = some q.2) ∧ w.heap[ba]? = some (.cells [.int .i64 a, .int .i64 m].toArray 69 (0, 0))) w := ⟨⟨v, fun q hq => hg.own q (by simp [hq])⟩, hg.own (ba, .cells [.int .i64 a, .int .i64 m].toArray 69 (0, 0)) (by simp)⟩
      refine WO.nilA hS ?_
      refine WA.passM 11 hS ?_
      refine WA.nil ?_
      with_reducible refine CutQ.mk ?_ ?_
      · simp only [setAll, List.map_cons, List.map_nil, gt, List.set_cons_succ, List.set_cons_zero]
      try simp only [List.map_cons, List.map_nil, gt]
      exact ⟨bt, by trivial, by trivial, ((((hg.front 4).front 4).front 4).front 4)⟩
  clear hg
  intro xs w hlen hI
  replace hlen := len_cons hlen
  obtain ⟨x9, xs, rfl, hlen⟩ := hlen
  replace hlen := len_cons hlen
  obtain ⟨x10, xs, rfl, hlen⟩ := hlen
  replace hlen := len_cons hlen
  obtain ⟨x14, xs, rfl, hlen⟩ := hlen
  replace hlen := len_cons hlen
  obtain ⟨x15, xs, rfl, hlen⟩ := hlen
  replace hlen := len_cons hlen
  obtain ⟨x16, xs, rfl, hlen⟩ := hlen
  replace hlen := len_cons hlen
  obtain ⟨x17, xs, rfl, hlen⟩ := hlen
  replace hlen := len_cons hlen
  obtain ⟨x18, xs, rfl, hlen⟩ := hlen
  replace hlen := len_cons hlen
  obtain ⟨x19, xs, rfl, hlen⟩ := hlen
  replace hlen := len_cons hlen
  obtain ⟨x20, xs, rfl, hlen⟩ := hlen
  replace hlen := len_cons hlen
  obtain ⟨x21, xs, rfl, hlen⟩ := hlen
  replace hlen := len_cons hlen
  obtain ⟨x22, xs, rfl, hlen⟩ := hlen
  replace hlen := len_nil hlen
  subst hlen
  refine QX.frame (by simp only [setAll, List.set_cons_succ, List.set_cons_zero]; exact rfl) ?_
  try simp only [gt] at hI
  obtain ⟨bt, rfl, rfl, hg⟩ := hI
  cases bb
  rotate_left
  · repeat' (first | refine zN ?_ | ((with_reducible refine WQ.nilG ?_); intro w hg) | (refine zB ?_; clear hg; intro b w hg; refine WO.fr ?_) | (refine zW ?_; clear hg; intro w hg; refine WO.fr ?_) | (refine op_pureB hg ?_; clear hg; intro w hg c hc; cases c <;> refine WO.fr ?_))
    obtain ⟨bl, et, hkl, hT⟩ := hKs.tk v none
    refine op_store (bl := bl) (et := et) (u := ptrO none) (k := k) hg ?_ (hT := Turn.n3 (hT _)) (hk := hkl)
    clear hg
    intro w hg
    refine WO.fr ?_
    repeat' (first | refine zN ?_ | ((with_reducible refine WQ.nilG ?_); intro w hg) | (refine zB ?_; clear hg; intro b w hg; refine WO.fr ?_) | (refine zW ?_; clear hg; intro w hg; refine WO.fr ?_) | (refine op_pureB hg ?_; clear hg; intro w hg c hc; cases c <;> refine WO.fr ?_))
    exact ret (.cells rfl (by first | with_reducible assumption | ((with_reducible apply Cells.ldn); (first | with_reducible assumption | ((with_reducible apply hg.cells0); with_reducible assumption) | with_reducible exact r1 hg | with_reducible exact r2 hg | with_reducible exact r3 hg | with_reducible exact r4 hg | with_reducible exact r5 hg | with_reducible exact t1 hs | with_reducible exact t2 hs | with_reducible exact t3 hs | with_reducible exact t4 hs); exact rfl) | ((with_reducible apply CellsAt.ldn (hg := hg)); (repeat (first | ((with_reducible apply CellsAt.whole); exact rfl) | ((with_reducible apply CellsAt.here) <;> first | with_reducible assumption | (simp only [List.drop_zero, List.drop_succ_cons, List.take_succ_cons, List.take_zero]; exact rfl) | exact rfl) | with_reducible apply CellsAt.more | with_reducible apply CellsAt.next)); done)) (.tmp rfl (.tmp rfl .nil))) ⟨t0, true, false, none, [], none, fw, s, rfl, .nil, ⟨fun _ => ⟨rfl, rfl⟩, fun _ => ⟨trivial, fun h => by cases h⟩⟩, hW, hK2, rfl, rfl, rfl, hg.lose.back3⟩
  repeat' ((fail_if_success (with_reducible refine WC.at 5 ?_)); first | refine zO ?_ | ((with_reducible refine WQ.nilG ?_); intro w hg) | (refine zB ?_; clear hg; intro b w hg; refine WO.fr ?_) | (refine zW ?_; clear hg; intro w hg; refine WO.fr ?_) | (refine op_pureB hg ?_; clear hg; intro w hg c hc; cases c <;> refine WO.fr ?_))
  refine WC.cut [27, 28, 29, 30, 31, 32, 33, 34, 35, 36, 37, 38, 39, 40, 41] (fun xs w => ∃ (v1 : Option Nat) (fs1 : Frag) (σ1 : Option SC), SlotOK vm vd va L v1 fs1 σ1 ∧ (nearO B s.all.length σ → nearO B s.all.length σ1 ∧ mO B s.all.length σ1 ≤ mO B s.all.length σ) ∧ Goes W [] ([(bt, .cells [.int .i64 t0.kind, .int .i64 t0.rule, .int .i64 t0.fr, .int .i64 t0.at', .int .i64 t0.to, .int .i64 t0.mode].toArray 48 (0, 0))] :: [(br, .cells [.int .i64 0, .int .i64 0, .int .i64 0, .int .i64 0, .int .i64 0, .int .i64 0].toArray 48 (0, 0))] :: [(ba, .cells [.int .i64 a, .int .i64 m].toArray 69 (0, 0))] :: K v1 :: fw :: fs1 :: Fs) w) ?_ ?_
  · cases hSl
    · have c1 : ∀ {w : World} {X1 X2 X3 : Frag} {Fs2 : List Frag}, Goes W [] (X1 :: X2 :: X3 :: K none :: Fs2) w → w.cell? ⟨sb, k, none⟩ = some (.pointer none) := fun h => hKs.ck none _ (h.front 3).own0
      repeat' (first | refine zN ?_ | ((with_reducible refine WQ.nilG ?_); intro w hg) | (refine zB ?_; clear hg; intro b w hg; refine WO.fr ?_) | (refine zW ?_; clear hg; intro w hg; refine WO.fr ?_) | (refine op_pureB hg ?_; clear hg; intro w hg c hc; cases c <;> refine WO.fr ?_))
      clear c1
      refine WC.drawn (fun w => (∃ v, ∀ q ∈ K v, w.heap[q.1]? = some q.2) ∧ w.heap[ba]? = some (.cells [.int .i64 a, .int .i64 m].toArray 69 (0, 0))) [] hg ?_
      clear hg
      intro w hg
      have hS : (fun w => (∃ v, ∀ q ∈ K v, w.heap[q.1]? = some q.2) ∧ w.heap[ba]? = some (.cells [.int .i64 a, .int .i64 m].toArray 69 (0, 0))) w := ⟨⟨none, fun q hq => hg.own q (by simp [hq])⟩, hg.own (ba, .cells [.int .i64 a, .int .i64 m].toArray 69 (0, 0)) (by simp)⟩
      refine WA.passM 0 hS ?_
      refine WA.passM 1 hS ?_
      refine WA.passM 2 hS ?_
      refine WA.passM 3 hS ?_
      refine WA.passM 4 hS ?_
      refine WA.passM 5 hS ?_
      refine WA.only 6 ?_
      refine op_call (sNew_spec a m hL hok hg) ?_
      rintro _ w (⟨er, rfl, hg2⟩ | ⟨ps, sc, rfl, hsc, htk, hnf, hg2⟩)
      · clear hg hS
        have hg := hg2
        clear hg2
        refine ⟨_, rfl, ?_⟩
        refine WO.fr ?_
        have hS : (fun w => (∃ v, ∀ q ∈ K v, w.heap[q.1]? = some q.2) ∧ w.heap[ba]? = some (.cells [.int .i64 a, .int .i64 m].toArray 69 (0, 0))) w := ⟨⟨none, fun q hq => hg.own q (by simp [hq])⟩, hg.own (ba, .cells [.int .i64 a, .int .i64 m].toArray 69 (0, 0)) (by simp)⟩
        refine WO.nilA hS ?_
        refine WA.passM 7 hS ?_
        refine WA.passM 8 hS ?_
        refine WA.passM 9 hS ?_
        refine WA.passM 10 hS ?_
        refine WA.only 11 ?_
        obtain ⟨bl, et, hkl, hT⟩ := hKs.tk none none
        refine op_store (bl := bl) (et := et) (u := ptrO none) (k := k) hg ?_ (hT := Turn.n3 (hT _)) (hk := hkl)
        clear hg hS
        intro w hg
        refine WO.fr ?_
        have hS : (fun w => (∃ v, ∀ q ∈ K v, w.heap[q.1]? = some q.2) ∧ w.heap[ba]? = some (.cells [.int .i64 a, .int .i64 m].toArray 69 (0, 0))) w := ⟨⟨none, fun q hq => hg.own q (by simp [hq])⟩, hg.own (ba, .cells [.int .i64 a, .int .i64 m].toArray 69 (0, 0)) (by simp)⟩
        refine WO.nilA hS ?_
        refine WA.nil ?_
        with_reducible refine CutQ.mk ?_ ?_
        · simp only [setAll, List.map_cons, List.map_nil, gt, List.set_cons_succ, List.set_cons_zero]
        try simp only [List.map_cons, List.map_nil, gt]
        exact ⟨none, [], none, .nil, fun h => ⟨h, Nat.le_refl _⟩, hg⟩
      · clear hg hS
        have hg := hg2
        replace hg := (((((((hg.front 6).front 1).front 6).front 6).front 6).front 6).front 6).noNil6
        clear hg2
        refine ⟨_, rfl, ?_⟩
        refine WO.fr ?_
        have hS : (fun w => (∃ v, ∀ q ∈ K v, w.heap[q.1]? = some q.2) ∧ w.heap[ba]? = some (.cells [.int .i64 a, .int .i64 m].toArray 69 (0, 0))) w := ⟨⟨none, fun q hq => hg.own q (by simp [hq])⟩, hg.own (ba, .cells [.int .i64 a, .int .i64 m].toArray 69 (0, 0)) (by simp)⟩
        refine WO.nilA hS ?_
        refine WA.passM 7 hS ?_
        refine WA.passM 8 hS ?_
        refine WA.passM 9 hS ?_
        refine WA.passM 10 hS ?_
        refine WA.only 11 ?_
        obtain ⟨bl, et, hkl, hT⟩ := hKs.tk none (some ps)
        refine op_store (bl := bl) (et := et) (u := ptrO (some ps)) (k := k) hg ?_ (hT := Turn.n3 (hT _)) (hk := hkl)
        clear hg
        intro w hg
        refine WO.fr ?_
        have hS : (fun w => (∃ v, ∀ q ∈ K v, w.heap[q.1]? = some q.2) ∧ w.heap[ba]? = some (.cells [.int .i64 a, .int .i64 m].toArray 69 (0, 0))) w := ⟨⟨some ps, fun q hq => hg.own q (by simp [hq])⟩, hg.own (ba, .cells [.int .i64 a, .int .i64 m].toArray 69 (0, 0)) (by simp)⟩
        refine WO.nilA hS ?_
        refine WA.nil ?_
        with_reducible refine CutQ.mk ?_ ?_
        · simp only [setAll, List.map_cons, List.map_nil, gt, List.set_cons_succ, List.set_cons_zero]
        try simp only [List.map_cons, List.map_nil, gt]
        exact ⟨some ps, _, some sc, .some hsc htk, fun h => ⟨fun hlt => absurd hlt (by rw [hnf]; exact Int.lt_irrefl _), SC.m_le _ _ _⟩, hg⟩
    · rename_i ps sc hsc htk
      have c1 : ∀ {w : World} {X1 X2 X3 : Frag} {Fs2 : List Frag}, Goes W [] (X1 :: X2 :: X3 :: K (some ps) :: Fs2) w → w.cell? ⟨sb, k, none⟩ = some (.pointer (some ⟨ps, 0, none⟩)) := fun h => hKs.ck (some ps) _ (h.front 3).own0
      repeat' (first | refine zN ?_ | ((with_reducible refine WQ.nilG ?_); intro w hg) | (refine zB ?_; clear hg; intro b w hg; refine WO.fr ?_) | (refine zW ?_; clear hg; intro w hg; refine WO.fr ?_) | (refine op_pureB hg ?_; clear hg; intro w hg c hc; cases c <;> refine WO.fr ?_))
      with_reducible refine CutQ.mk ?_ ?_
      · simp only [setAll, List.map_cons, List.map_nil, gt, List.set_cons_succ, List.set_cons_zero]
      try simp only [List.map_cons, List.map_nil, gt]
      exact ⟨some ps, _, some sc, .some hsc htk, fun h => ⟨h, Nat.le_refl _⟩, hg⟩
  clear hg
  intro xs w hlen hI
  replace hlen := len_cons hlen
  obtain ⟨x27, xs, rfl, hlen⟩ := hlen
  replace hlen := len_cons hlen
  obtain ⟨x28, xs, rfl, hlen⟩ := hlen
  replace hlen := len_cons hlen
  obtain ⟨x29, xs, rfl, hlen⟩ := hlen
  replace hlen := len_cons hlen
  obtain ⟨x30, xs, rfl, hlen⟩ := hlen
  replace hlen := len_cons hlen
  obtain ⟨x31, xs, rfl, hlen⟩ := hlen
  replace hlen := len_cons hlen
  obtain ⟨x32, xs, rfl, hlen⟩ := hlen
  replace hlen := len_cons hlen
  obtain ⟨x33, xs, rfl, hlen⟩ := hlen
  replace hlen := len_cons hlen
  obtain ⟨x34, xs, rfl, hlen⟩ := hlen
  replace hlen := len_cons hlen
  obtain ⟨x35, xs, rfl, hlen⟩ := hlen
  replace hlen := len_cons hlen
  obtain ⟨x36, xs, rfl, hlen⟩ := hlen
  replace hlen := len_cons hlen
  obtain ⟨x37, xs, rfl, hlen⟩ := hlen
  replace hlen := len_cons hlen
  obtain ⟨x38, xs, rfl, hlen⟩ := hlen
  replace hlen := len_cons hlen
  obtain ⟨x39, xs, rfl, hlen⟩ := hlen
  replace hlen := len_cons hlen
  obtain ⟨x40, xs, rfl, hlen⟩ := hlen
  replace hlen := len_cons hlen
  obtain ⟨x41, xs, rfl, hlen⟩ := hlen
  replace hlen := len_nil hlen
  subst hlen
  refine QX.frame (by simp only [setAll, List.set_cons_succ, List.set_cons_zero]; exact rfl) ?_
  try simp only [gt] at hI
  obtain ⟨v1, fs1, σ1, hS1, hm1, hg⟩ := hI
  clear s1 s2 s3
  have c2 : ∀ {w : World} {X1 X2 X3 : Frag} {Fs2 : List Frag}, Goes W [] (X1 :: X2 :: X3 :: K v1 :: Fs2) w → w.cell? ⟨pc, 10, none⟩ = some (.pointer (some ⟨pw, 0, none⟩)) := fun h => hKs.c10 v1 _ (h.front 3).own0
  have s1 : ∀ {w : World}, (∀ q ∈ K v1, w.heap[q.1]? = some q.2) → w.cell? ⟨sb, k, none⟩ = some (ptrO v1) := fun h => hKs.ck _ _ h
  have s2 : ∀ {w : World}, (∀ q ∈ K v1, w.heap[q.1]? = some q.2) → w.cell? ⟨pc, 11, none⟩ = some (.bool cl) := fun h => hKs.c11 _ _ h
  have s3 : ∀ {w : World}, (∀ q ∈ K v1, w.heap[q.1]? = some q.2) → w.cell? ⟨pc, 9, none⟩ = some (.int .i64 p.step) := fun h => hKs.c9 _ _ h
  cases hS1
  · repeat' (first | refine zN ?_ | ((with_reducible refine WQ.nilG ?_); intro w hg) | (refine zB ?_; clear hg; intro b w hg; refine WO.fr ?_) | (refine zW ?_; clear hg; intro w hg; refine WO.fr ?_) | (refine op_pureB hg ?_; clear hg; intro w hg c hc; cases c <;> refine WO.fr ?_))
    refine WC.drawn (fun w => ∀ q ∈ K none, w.heap[q.1]? = some q.2) [] hg ?_
    clear hg
    intro w hg
    have hS : (fun w => ∀ q ∈ K none, w.heap[q.1]? = some q.2) w := (hg.front 3).own0
    refine WA.passM 0 hS ?_
    refine WA.passM 1 hS ?_
    refine WA.passM 3 hS ?_
    refine WA.passM 4 hS ?_
    refine WA.passM 5 hS ?_
    refine WA.passM 6 hS ?_
    refine WA.passM 8 hS ?_
    refine WA.passM 9 hS ?_
    refine WA.passM 10 hS ?_
    refine WA.passM 11 hS ?_
    refine WA.passM 2 hS ?_
    refine WA.passM 7 hS ?_
    refine WA.passM 12 hS ?_
    refine WA.only 13 ?_
    refine op_pure hg ?_ (hc := sStep_nil _ _ _ _)
    clear hg hS
    intro w hg
    refine WO.fr ?_
    have hS : (fun w => ∀ q ∈ K none, w.heap[q.1]? = some q.2) w := (hg.front 3).own0
    refine WO.nilA hS ?_
    refine WA.nil ?_
    clear hS s1 s2 s3 c2
    repeat' (first | refine zN ?_ | ((with_reducible refine WQ.nilG ?_); intro w hg) | (refine zB ?_; clear hg; intro b w hg; refine WO.fr ?_) | (refine zW ?_; clear hg; intro w hg; refine WO.fr ?_) | (refine op_pureB hg ?_; clear hg; intro w hg c hc; cases c <;> refine WO.fr ?_))
    exact ret (.cells rfl (by first | with_reducible assumption | ((with_reducible apply Cells.ldn); (first | with_reducible assumption | ((with_reducible apply hg.cells0); with_reducible assumption) | with_reducible exact r1 hg | with_reducible exact r2 hg | with_reducible exact r3 hg | with_reducible exact r4 hg | with_reducible exact r5 hg | with_reducible exact t1 hs | with_reducible exact t2 hs | with_reducible exact t3 hs | with_reducible exact t4 hs); exact rfl) | ((with_reducible apply CellsAt.ldn (hg := hg)); (repeat (first | ((with_reducible apply CellsAt.whole); exact rfl) | ((with_reducible apply CellsAt.here) <;> first | with_reducible assumption | (simp only [List.drop_zero, List.drop_succ_cons, List.take_succ_cons, List.take_zero]; exact rfl) | exact rfl) | with_reducible apply CellsAt.more | with_reducible apply CellsAt.next)); done)) (.tmp rfl (.tmp rfl .nil))) ⟨Tok.none, false, true, none, [], none, fw, s, rfl, .nil, ⟨fun h => (by cases h), fun h => ⟨trivial, fun _ h => by cases h⟩⟩, hW, hK2, rfl, rfl, rfl, hg.back3⟩
  rename_i ps sc hsc htk
  repeat' (first | refine zN ?_ | ((with_reducible refine WQ.nilG ?_); intro w hg) | (refine zB ?_; clear hg; intro b w hg; refine WO.fr ?_) | (refine zW ?_; clear hg; intro w hg; refine WO.fr ?_) | (refine op_pureB hg ?_; clear hg; intro w hg c hc; cases c <;> refine WO.fr ?_))
  refine WC.drawn (fun w => ∀ q ∈ K (some ps), w.heap[q.1]? = some q.2) [] hg ?_
  clear hg
  intro w hg
  have hS : (fun w => ∀ q ∈ K (some ps), w.heap[q.1]? = some q.2) w := (hg.front 3).own0
  refine WA.passM 0 hS ?_
  refine WA.passM 1 hS ?_
  refine WA.passM 3 hS ?_
  refine WA.passM 4 hS ?_
  refine WA.passM 5 hS ?_
  refine WA.passM 6 hS ?_
  refine WA.passM 8 hS ?_
  refine WA.passM 9 hS ?_
  refine WA.passM 10 hS ?_
  refine WA.passM 11 hS ?_
  refine WA.passM 2 hS ?_
  refine WA.passM 7 hS ?_
  refine WA.passM 12 hS ?_
  refine WA.only 13 ?_
  replace hg := ((((((hg.front 3).front 3).front 3).front 3).front 4).front 5)
  refine op_call (sStep_spec cl p.step (by omega) hB hW hK2 hal hL hok hsc htk hg) ?_
  rintro _ w ⟨sc', r, rfl, hst', hg2⟩
  clear hg hS
  have hg := hg2
  replace hg := hg.rot6
  clear hg2
  refine ⟨_, rfl, ?_⟩
  refine WO.fr ?_
  have hS : (fun w => ∀ q ∈ K (some ps), w.heap[q.1]? = some q.2) w := (hg.front 3).own0
  refine WO.nilA hS ?_
  refine WA.nil ?_
  clear hS s1 s2 s3 c2
  rcases hst'.rr with rfl | rfl | rfl
  · repeat' (first | refine zN ?_ | ((with_reducible refine WQ.nilG ?_); intro w hg) | (refine zB ?_; clear hg; intro b w hg; refine WO.fr ?_) | (refine zW ?_; clear hg; intro w hg; refine WO.fr ?_) | (refine op_pureB hg ?_; clear hg; intro w hg c hc; cases c <;> refine WO.fr ?_))
    exact ret (.cells rfl (by first | with_reducible assumption | ((with_reducible apply Cells.ldn); (first | with_reducible assumption | ((with_reducible apply hg.cells0); with_reducible assumption) | with_reducible exact r1 hg | with_reducible exact r2 hg | with_reducible exact r3 hg | with_reducible exact r4 hg | with_reducible exact r5 hg | with_reducible exact t1 hs | with_reducible exact t2 hs | with_reducible exact t3 hs | with_reducible exact t4 hs); exact rfl) | ((with_reducible apply CellsAt.ldn (hg := hg)); (repeat (first | ((with_reducible apply CellsAt.whole); exact rfl) | ((with_reducible apply CellsAt.here) <;> first | with_reducible assumption | (simp only [List.drop_zero, List.drop_succ_cons, List.take_succ_cons, List.take_zero]; exact rfl) | exact rfl) | with_reducible apply CellsAt.more | with_reducible apply CellsAt.next)); done)) (.tmp rfl (.tmp rfl .nil))) ⟨Tok.none, false, false, some ps, _, some sc', fw, s, rfl, .some hst'.ok (hst'.un (by decide)), ⟨fun h => (by cases h), fun h => ⟨(hst'.near (hm1 h).1).1, fun _ _ => Nat.lt_of_lt_of_le ((hst'.near (hm1 h).1).2 rfl) (hm1 h).2⟩⟩, hW, hK2, rfl, rfl, rfl, hg.back3⟩
  · have p1 : ∀ {w : World} {X1 X2 X3 X4 X5 : Frag} {Fs2 : List Frag}, Goes W [] (X1 :: X2 :: X3 :: X4 :: X5 :: scF ps vm vd va sc' :: Fs2) w → Calls Tryz.prog 64 #[.pointer (some ⟨ps, 0, none⟩)] w _ := fun h => sToken_spec (hst'.known rfl) (h.front 5)
    have c1 : ∀ {w : World} {X1 X2 X3 : Frag} {Fs2 : List Frag}, Goes W [] (X1 :: X2 :: X3 :: K (some ps) :: Fs2) w → w.cell? ⟨sb, k, none⟩ = some (.pointer (some ⟨ps, 0, none⟩)) := fun h => hKs.ck (some ps) _ (h.front 3).own0
    simp only [Tok.enc] at p1
    repeat' (first | refine zN ?_ | ((with_reducible refine WQ.nilG ?_); intro w hg) | (refine zB ?_; clear hg; intro b w hg; refine WO.fr ?_) | (refine zW ?_; clear hg; intro w hg; refine WO.fr ?_) | (refine op_pureB hg ?_; clear hg; intro w hg c hc; cases c <;> refine WO.fr ?_))
    clear p1 c1
    obtain ⟨bx, rfl⟩ : ∃ z, z = b := ⟨b, rfl⟩
    obtain ⟨bl, et, hkl, hT⟩ := hKs.tk (some ps) none
    refine op_store (bl := bl) (et := et) (u := ptrO none) (k := k) hg ?_ (hT := .next (Turn.n3 (hT _))) (hk := hkl)
    clear hg
    intro w hg
    refine WO.fr ?_
    repeat' (first | refine zN ?_ | ((with_reducible refine WQ.nilG ?_); intro w hg) | (refine zB ?_; clear hg; intro b w hg; refine WO.fr ?_) | (refine zW ?_; clear hg; intro w hg; refine WO.fr ?_) | (refine op_pureB hg ?_; clear hg; intro w hg c hc; cases c <;> refine WO.fr ?_))
    have s1 : ∀ {w : World}, ((∀ q ∈ K none, w.heap[q.1]? = some q.2) ∧ w.heap[ba]? = some (.cells [.int .i64 a, .int .i64 m].toArray 69 (0, 0)) ∧ w.heap[bx]? = some (.cells [.int .i64 sc'.tok.kind, .int .i64 sc'.tok.rule, .int .i64 sc'.tok.fr, .int .i64 sc'.tok.at', .int .i64 sc'.tok.to, .int .i64 sc'.tok.mode].toArray 48 (0, 0))) → w.cell? ⟨pc, 10, none⟩ = some (.pointer (some ⟨pw, 0, none⟩)) := fun h => hKs.c10 _ _ h.1
    have t1 : ∀ {w : World}, ((∀ q ∈ K none, w.heap[q.1]? = some q.2) ∧ w.heap[ba]? = some (.cells [.int .i64 a, .int .i64 m].toArray 69 (0, 0)) ∧ w.heap[bx]? = some (.cells [.int .i64 sc'.tok.kind, .int .i64 sc'.tok.rule, .int .i64 sc'.tok.fr, .int .i64 sc'.tok.at', .int .i64 sc'.tok.to, .int .i64 sc'.tok.mode].toArray 48 (0, 0))) → Cells w ⟨ba, 0, none⟩ [.int .i64 a, .int .i64 m] := fun h => heap_cells h.2.1 rfl
    have t2 : ∀ {w : World}, ((∀ q ∈ K none, w.heap[q.1]? = some q.2) ∧ w.heap[ba]? = some (.cells [.int .i64 a, .int .i64 m].toArray 69 (0, 0)) ∧ w.heap[bx]? = some (.cells [.int .i64 sc'.tok.kind, .int .i64 sc'.tok.rule, .int .i64 sc'.tok.fr, .int .i64 sc'.tok.at', .int .i64 sc'.tok.to, .int .i64 sc'.tok.mode].toArray 48 (0, 0))) → Cells w ⟨bx, 0, none⟩ [.int .i64 sc'.tok.kind, .int .i64 sc'.tok.rule, .int .i64 sc'.tok.fr, .int .i64 sc'.tok.at', .int .i64 sc'.tok.to, .int .i64 sc'.tok.mode] := fun h => heap_cells h.2.2 rfl
    refine WC.drawn (fun w => (∀ q ∈ K none, w.heap[q.1]? = some q.2) ∧ w.heap[ba]? = some (.cells [.int .i64 a, .int .i64 m].toArray 69 (0, 0)) ∧ w.heap[bx]? = some (.cells [.int .i64 sc'.tok.kind, .int .i64 sc'.tok.rule, .int .i64 sc'.tok.fr, .int .i64 sc'.tok.at', .int .i64 sc'.tok.to, .int .i64 sc'.tok.mode].toArray 48 (0, 0))) [] hg ?_
    clear hg
    intro w hg
    have hS : (fun w => (∀ q ∈ K none, w.heap[q.1]? = some q.2) ∧ w.heap[ba]? = some (.cells [.int .i64 a, .int .i64 m].toArray 69 (0, 0)) ∧ w.heap[bx]? = some (.cells [.int .i64 sc'.tok.kind, .int .i64 sc'.tok.rule, .int .i64 sc'.tok.fr, .int .i64 sc'.tok.at', .int .i64 sc'.tok.to, .int .i64 sc'.tok.mode].toArray 48 (0, 0))) w := ⟨fun q hq => hg.own q (by simp [hq]), hg.own (ba, .cells [.int .i64 a, .int .i64 m].toArray 69 (0, 0)) (by simp), hg.own (bx, .cells [.int .i64 sc'.tok.kind, .int .i64 sc'.tok.rule, .int .i64 sc'.tok.fr, .int .i64 sc'.tok.at', .int .i64 sc'.tok.to, .int .i64 sc'.tok.mode].toArray 48 (0, 0)) (by simp)⟩
    refine WA.passM 0 hS ?_
    refine WA.passM 1 hS ?_
    refine WA.passM 2 hS ?_
    refine WA.passM 3 hS ?_
    refine WA.passM 4 hS ?_
    refine WA.passM 5 hS ?_
    refine WA.only 6 ?_
    refine op_call (wKeep_spec a m sc'.tok hW (hg.front 5).owns1 hK2 hal) ?_
    rintro _ w ⟨fw', rfl, hW', hg2⟩
    replace hg := (hg.front 5).callF hg2
    clear hg2 hS
    refine ⟨_, rfl, ?_⟩
    refine WO.fr ?_
    have hS : (fun w => (∀ q ∈ K none, w.heap[q.1]? = some q.2) ∧ w.heap[ba]? = some (.cells [.int .i64 a, .int .i64 m].toArray 69 (0, 0)) ∧ w.heap[bx]? = some (.cells [.int .i64 sc'.tok.kind, .int .i64 sc'.tok.rule, .int .i64 sc'.tok.fr, .int .i64 sc'.tok.at', .int .i64 sc'.tok.to, .int .i64 sc'.tok.mode].toArray 48 (0, 0))) w := ⟨fun q hq => hg.own q (by simp [hq]), hg.own (ba, .cells [.int .i64 a, .int .i64 m].toArray 69 (0, 0)) (by simp), hg.own (bx, .cells [.int .i64 sc'.tok.kind, .int .i64 sc'.tok.rule, .int .i64 sc'.tok.fr, .int .i64 sc'.tok.at', .int .i64 sc'.tok.to, .int .i64 sc'.tok.mode].toArray 48 (0, 0)) (by simp)⟩
    refine WO.nilA hS ?_
    refine WA.nil ?_
    clear hS s1 t1 t2
    repeat' (first | refine zN ?_ | ((with_reducible refine WQ.nilG ?_); intro w hg) | (refine zB ?_; clear hg; intro b w hg; refine WO.fr ?_) | (refine zW ?_; clear hg; intro w hg; refine WO.fr ?_) | (refine op_pureB hg ?_; clear hg; intro w hg c hc; cases c <;> refine WO.fr ?_))
    have hks := keep_same (B := p.bytes) (s := s) (e := ⟨a, m, sc'.tok⟩)
    exact ret (.cells rfl (by first | with_reducible assumption | ((with_reducible apply Cells.ldn); (first | with_reducible assumption | ((with_reducible apply hg.cells0); with_reducible assumption) | with_reducible exact r1 hg | with_reducible exact r2 hg | with_reducible exact r3 hg | with_reducible exact r4 hg | with_reducible exact r5 hg | with_reducible exact t1 hs | with_reducible exact t2 hs | with_reducible exact t3 hs | with_reducible exact t4 hs); exact rfl) | ((with_reducible apply CellsAt.ldn (hg := hg)); (repeat (first | ((with_reducible apply CellsAt.whole); exact rfl) | ((with_reducible apply CellsAt.here) <;> first | with_reducible assumption | (simp only [List.drop_zero, List.drop_succ_cons, List.take_succ_cons, List.take_zero]; exact rfl) | exact rfl) | with_reducible apply CellsAt.more | with_reducible apply CellsAt.next)); done)) (.tmp rfl (.tmp rfl .nil))) ⟨sc'.tok, true, false, none, [], none, fw', s.keep p.bytes ⟨a, m, sc'.tok⟩, rfl, .nil, ⟨fun _ => ⟨rfl, rfl⟩, fun _ => ⟨trivial, fun h => by cases h⟩⟩, hW', hK2.keep _, hks.1, hks.2.1, hks.2.2, ((((((((hg.front 4).front 4).front 4).front 4).front 6).front 5).front 6)).fin7⟩
  · repeat' (first | refine zN ?_ | ((with_reducible refine WQ.nilG ?_); intro w hg) | (refine zB ?_; clear hg; intro b w hg; refine WO.fr ?_) | (refine zW ?_; clear hg; intro w hg; refine WO.fr ?_) | (refine op_pureB hg ?_; clear hg; intro w hg c hc; cases c <;> refine WO.fr ?_))
    exact ret (.cells rfl (by first | with_reducible assumption | ((with_reducible apply Cells.ldn); (first | with_reducible assumption | ((with_reducible apply hg.cells0); with_reducible assumption) | with_reducible exact r1 hg | with_reducible exact r2 hg | with_reducible exact r3 hg | with_reducible exact r4 hg | with_reducible exact r5 hg | with_reducible exact t1 hs | with_reducible exact t2 hs | with_reducible exact t3 hs | with_reducible exact t4 hs); exact rfl) | ((with_reducible apply CellsAt.ldn (hg := hg)); (repeat (first | ((with_reducible apply CellsAt.whole); exact rfl) | ((with_reducible apply CellsAt.here) <;> first | with_reducible assumption | (simp only [List.drop_zero, List.drop_succ_cons, List.take_succ_cons, List.take_zero]; exact rfl) | exact rfl) | with_reducible apply CellsAt.more | with_reducible apply CellsAt.next)); done)) (.tmp rfl (.tmp rfl .nil))) ⟨Tok.none, false, true, some ps, _, some sc', fw, s, rfl, .some hst'.ok (hst'.un (by decide)), ⟨fun h => (by cases h), fun h => ⟨(hst'.near (hm1 h).1).1, fun _ h => by cases h⟩⟩, hW, hK2, rfl, rfl, rfl, hg.back3⟩
end
end Go.Proofs.YtkdidefghbeabaaGreat
