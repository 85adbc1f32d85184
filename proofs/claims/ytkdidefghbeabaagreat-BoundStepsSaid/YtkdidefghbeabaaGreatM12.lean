/- The window: as it lies; what it tells. The window in plain lists. The window: Right, New, Need, Reclaim, Make. The window: Make, Feed. -/
import Derived.Test.YtkdidefghbeabaaGreatM09
import Derived.Test.YtkdidefghbeabaaGreatM11
namespace Go.Proofs.YtkdidefghbeabaaGreat
open Go Go.RowKit
set_option maxRecDepth 10000
set_option linter.unusedSimpArgs false
set_option linter.unusedVariables false

structure Prm where
  bytes : Int
  trail : Int
  marks : Int
  ahead : Int
  tickets : Int
  retries : Int
  step : Int
def Prm.enc (p : Prm) : List Value := [.int .i64 p.bytes, .int .i64 p.trail, .int .i64 p.marks, .int .i64 p.ahead, .int .i64 p.tickets, .int .i64 p.retries, .int .i64 p.step]

/-- A window's state. -/
structure WS where
  low : Nat
  fl : Nat
  all : List UInt8
  ws : List CE
structure WOK (B : Int) (s : WS) : Prop where
  b1 : 1 ≤ B
  b2 : B ≤ 4096
  h1 : s.fl ≤ s.low
  h2 : s.low ≤ s.all.length
  h3 : (s.all.length : Int) ≤ s.fl + B
  h4 : (s.ws.length : Int) ≤ B + 1

/-- How it lies: itself, its ring, its cache. -/
def WinF (pw : Nat) (p : Prm) (s : WS) (f : Frag) : Prop := ∃ (pr pc n : Nat) (bl : List UInt8) (m : List (Int × Ent)) (h : List Int) (fr fc : Frag), f = [(pw, .cells [.pointer (some ⟨pr, 0, none⟩), .pointer (some ⟨pc, 0, none⟩), .int .i64 p.bytes, .int .i64 p.trail, .int .i64 p.marks, .int .i64 p.ahead, .int .i64 p.tickets, .int .i64 p.retries, .int .i64 p.step, .int .i64 (s.low : Nat)].toArray 115 (0, 0))] ++ (fr ++ fc) ∧ (n : Int) = p.bytes ∧ RingF pr n bl s.fl s.all.length fr ∧ RingOK n bl s.fl s.all ∧ CacheF pc (p.bytes + 1) m h fc ∧ CRel s.ws (mget m) h

theorem Owns.parts {w : World} {a b c : Frag} (h : Owns w (a ++ (b ++ c))) : Owns w a ∧ Owns w b ∧ Owns w c := by
  have h2 := h.2
  simp only [keys, List.map_append, List.nodup_append] at h2
  exact ⟨⟨fun p hp => h.1 p (by simp [hp]), h2.1⟩, ⟨fun p hp => h.1 p (by simp [hp]), h2.2.1.1⟩, ⟨fun p hp => h.1 p (by simp [hp]), h2.2.1.2.1⟩⟩
theorem Owns.on {w0 w : World} {f : Frag} {Fs : List Frag} (h : Owns w0 f) (hg : Goes w0 [] Fs w) : Owns w f := ⟨heap_goes h.1 hg, h.2⟩

section
variable {pw : Nat} {p : Prm} {s : WS} {f : Frag} {w0 : World}
theorem wmade_cell {pc : Addr} (hc : w0.cell? ⟨pw, 1, none⟩ = some (.pointer (some pc))) : Calls Tryz.prog 66 #[.pointer (some ⟨pw, 0, none⟩)] w0 fun e w' => e = .returned (.bool true) ∧ Goes w0 [] [] w' := by
  have hg := Goes.refl w0
  have c1 : ∀ {w' Fs}, Goes w0 [] Fs w' → w'.cell? ⟨pw, 1, none⟩ = some (.pointer (some pc)) := fun h => h.cellOld0 hc
  refine enter Tryz.func66 rfl (by simp only [Tryz.ntmps66, List.length_cons, List.length_nil, Nat.reduceAdd, Nat.reduceSub, List.replicate_succ, List.replicate_zero, List.cons_append, List.nil_append]; exact rfl) ?_
  repeat' (first | refine zN ?_ | (refine WC.quietG hg ?_; clear hg) | ((with_reducible refine WQ.nilG ?_); intro w hg) | (refine zB ?_; clear hg; intro b w hg; refine WO.fr ?_) | (refine zW ?_; clear hg; intro w hg; refine WO.fr ?_) | (refine op_pureB hg ?_; clear hg; intro w hg c hc; cases c <;> refine WO.fr ?_))
  exact ret1 rfl ⟨rfl, hg.drop⟩
theorem ask_spec {fid : FuncId} {fd : Func} [Fun Tryz.prog fid fd] {a : Option Addr} {v : Value} (hm : ∀ {w}, Goes w0 [] [] w → Calls Tryz.prog 66 #[.pointer a] w fun e w' => e = .returned (.bool true) ∧ Goes w [] [] w') (hc : ∀ {w}, Goes w0 [] [] w → Calls Tryz.prog fid #[.pointer a] w fun e w' => e = .returned v ∧ Goes w [] [] w') :
    Calls Tryz.prog 102 #[.pointer a, .func (.func fid) #[] #[]] w0 fun e w' => e = .returned v ∧ Goes w0 [] [] w' := by
  have hg := Goes.refl w0
  have p1 : ∀ {w Fs}, Goes w0 [] Fs w → Calls Tryz.prog 66 #[.pointer a] w _ := fun h => hm h.drop
  refine enter Tryz.func102 rfl (by simp only [Tryz.ntmps102, List.length_cons, List.length_nil, Nat.reduceAdd, Nat.reduceSub, List.replicate_succ, List.replicate_zero, List.cons_append, List.nil_append]; exact rfl) ?_
  repeat' (first | refine zN ?_ | (refine WC.quietG hg ?_; clear hg) | ((with_reducible refine WQ.nilG ?_); intro w hg) | (refine zB ?_; clear hg; intro b w hg; refine WO.fr ?_) | (refine zW ?_; clear hg; intro w hg; refine WO.fr ?_) | (refine op_pureB hg ?_; clear hg; intro w hg c hc; cases c <;> refine WO.fr ?_))
  refine op_callV (fs := []) (cs := []) (f := fid) (hc hg.drop) ?_
  rintro _ w2 ⟨rfl, hg2⟩
  replace hg := hg.call00 hg2
  clear hg2
  refine ⟨_, rfl, ?_⟩
  refine WO.fr ?_
  repeat' (first | refine zN ?_ | (refine WC.quietG hg ?_; clear hg) | ((with_reducible refine WQ.nilG ?_); intro w hg) | (refine zB ?_; clear hg; intro b w hg; refine WO.fr ?_) | (refine zW ?_; clear hg; intro w hg; refine WO.fr ?_) | (refine op_pureB hg ?_; clear hg; intro w hg c hc; cases c <;> refine WO.fr ?_))
  exact ret1 rfl ⟨rfl, hg.drop⟩
/-- What is known of a window. -/
theorem WinF.get (hF : WinF pw p s f) (hO : Owns w0 f) : ∃ (pr pc n : Nat) (bl : List UInt8) (m : List (Int × Ent)) (h : List Int) (fr fc : Frag), (n : Int) = p.bytes ∧ RingF pr n bl s.fl s.all.length fr ∧ RingOK n bl s.fl s.all ∧ CacheF pc (p.bytes + 1) m h fc ∧ CRel s.ws (mget m) h ∧ w0.heap[pw]? = some (.cells [.pointer (some ⟨pr, 0, none⟩), .pointer (some ⟨pc, 0, none⟩), .int .i64 p.bytes, .int .i64 p.trail, .int .i64 p.marks, .int .i64 p.ahead, .int .i64 p.tickets, .int .i64 p.retries, .int .i64 p.step, .int .i64 (s.low : Nat)].toArray 115 (0, 0)) ∧ Owns w0 fr ∧ Owns w0 fc := by
  obtain ⟨pr, pc, n, bl, m, h, fr, fc, rfl, hn, h1, h2, h3, h4⟩ := hF
  obtain ⟨o1, o2, o3⟩ := hO.parts
  exact ⟨pr, pc, n, bl, m, h, fr, fc, hn, h1, h2, h3, h4, o1.1 (pw, _) (by simp), o2, o3⟩
theorem wmade_spec (hF : WinF pw p s f) (hO : Owns w0 f) : Calls Tryz.prog 66 #[.pointer (some ⟨pw, 0, none⟩)] w0 fun e w' => e = .returned (.bool true) ∧ Goes w0 [] [] w' := by
  obtain ⟨pr, pc, n, bl, m, h, fr, fc, hn, h1, h2, h3, h4, hh, o2, o3⟩ := hF.get hO
  exact wmade_cell (heap_cell hh rfl)

theorem wfloor_spec (hF : WinF pw p s f) (hO : Owns w0 f) : Calls Tryz.prog 103 #[.pointer (some ⟨pw, 0, none⟩)] w0 fun e w' => e = .returned (.int .i64 s.fl) ∧ Goes w0 [] [] w' := by
  obtain ⟨pr, pc, n, bl, m, h, fr, fc, hn, h1, h2, h3, h4, hh, o2, o3⟩ := hF.get hO
  have hg := Goes.refl w0
  have c0 : w0.cell? ⟨pw, 0, none⟩ = some (.pointer (some ⟨pr, 0, none⟩)) := heap_cell hh rfl
  have c1 : ∀ {w Fs}, Goes w0 [] Fs w → w.cell? ⟨pw, 0, none⟩ = some (.pointer (some ⟨pr, 0, none⟩)) := fun h => h.cellOld0 c0
  have p1 : ∀ {w Fs}, Goes w0 [] Fs w → Calls Tryz.prog 131 #[.pointer (some ⟨pr, 0, none⟩)] w _ := fun h => rFloor_spec h1 (heap_goes o2.1 h) h2.pos
  refine enter Tryz.func103 rfl (by simp only [Tryz.ntmps103, List.length_cons, List.length_nil, Nat.reduceAdd, Nat.reduceSub, List.replicate_succ, List.replicate_zero, List.cons_append, List.nil_append]; exact rfl) ?_
  repeat' (first | refine zN ?_ | (refine WC.quietG hg ?_; clear hg) | ((with_reducible refine WQ.nilG ?_); intro w hg) | (refine zB ?_; clear hg; intro b w hg; refine WO.fr ?_) | (refine zW ?_; clear hg; intro w hg; refine WO.fr ?_) | (refine op_pureB hg ?_; clear hg; intro w hg c hc; cases c <;> refine WO.fr ?_))
  exact ret1 rfl ⟨rfl, hg.drop⟩
theorem wend_spec (hF : WinF pw p s f) (hO : Owns w0 f) : Calls Tryz.prog 129 #[.pointer (some ⟨pw, 0, none⟩)] w0 fun e w' => e = .returned (.int .i64 s.all.length) ∧ Goes w0 [] [] w' := by
  obtain ⟨pr, pc, n, bl, m, h, fr, fc, hn, h1, h2, h3, h4, hh, o2, o3⟩ := hF.get hO
  have hg := Goes.refl w0
  have c0 : w0.cell? ⟨pw, 0, none⟩ = some (.pointer (some ⟨pr, 0, none⟩)) := heap_cell hh rfl
  have c1 : ∀ {w Fs}, Goes w0 [] Fs w → w.cell? ⟨pw, 0, none⟩ = some (.pointer (some ⟨pr, 0, none⟩)) := fun h => h.cellOld0 c0
  have p1 : ∀ {w Fs}, Goes w0 [] Fs w → Calls Tryz.prog 142 #[.pointer (some ⟨pr, 0, none⟩)] w _ := fun h => rEnd_spec h1 (heap_goes o2.1 h) h2.pos
  refine enter Tryz.func129 rfl (by simp only [Tryz.ntmps129, List.length_cons, List.length_nil, Nat.reduceAdd, Nat.reduceSub, List.replicate_succ, List.replicate_zero, List.cons_append, List.nil_append]; exact rfl) ?_
  repeat' (first | refine zN ?_ | (refine WC.quietG hg ?_; clear hg) | ((with_reducible refine WQ.nilG ?_); intro w hg) | (refine zB ?_; clear hg; intro b w hg; refine WO.fr ?_) | (refine zW ?_; clear hg; intro w hg; refine WO.fr ?_) | (refine op_pureB hg ?_; clear hg; intro w hg c hc; cases c <;> refine WO.fr ?_))
  exact ret1 rfl ⟨rfl, hg.drop⟩
theorem wroom_spec (hF : WinF pw p s f) (hO : Owns w0 f) (hs : s.all.length ≤ 100000 ∧ s.low ≤ s.all.length ∧ p.bytes ≤ 4096) : Calls Tryz.prog 146 #[.pointer (some ⟨pw, 0, none⟩)] w0 fun e w' => e = .returned (.int .i64 (s.low + p.bytes - s.all.length)) ∧ Goes w0 [] [] w' := by
  obtain ⟨pr, pc, n, bl, m, h, fr, fc, hn, h1, h2, h3, h4, hh, o2, o3⟩ := hF.get hO
  have hpos := h2.pos
  have hg := Goes.refl w0
  have c0 : w0.cell? ⟨pw, 0, none⟩ = some (.pointer (some ⟨pr, 0, none⟩)) := heap_cell hh rfl
  have c9 : w0.cell? ⟨pw, 9, none⟩ = some (.int .i64 s.low) := heap_cell hh rfl
  have c8 : w0.cell? ⟨pw, 2, none⟩ = some (.int .i64 p.bytes) := heap_cell hh rfl
  have c1 : ∀ {w Fs}, Goes w0 [] Fs w → w.cell? ⟨pw, 0, none⟩ = some (.pointer (some ⟨pr, 0, none⟩)) := fun h => h.cellOld0 c0
  have c2 : ∀ {w Fs}, Goes w0 [] Fs w → w.cell? ⟨pw, 9, none⟩ = some (.int .i64 s.low) := fun h => h.cellOld0 c9
  have c3 : ∀ {w Fs}, Goes w0 [] Fs w → w.cell? ⟨pw, 2, none⟩ = some (.int .i64 p.bytes) := fun h => h.cellOld0 c8
  have p1 : ∀ {w Fs}, Goes w0 [] Fs w → Calls Tryz.prog 142 #[.pointer (some ⟨pr, 0, none⟩)] w _ := fun h => rEnd_spec h1 (heap_goes o2.1 h) h2.pos
  refine enter Tryz.func146 rfl (by simp only [Tryz.ntmps146, List.length_cons, List.length_nil, Nat.reduceAdd, Nat.reduceSub, List.replicate_succ, List.replicate_zero, List.cons_append, List.nil_append]; exact rfl) ?_
  repeat' (first | refine zN ?_ | (refine WC.quietG hg ?_; clear hg) | ((with_reducible refine WQ.nilG ?_); intro w hg) | (refine zB ?_; clear hg; intro b w hg; refine WO.fr ?_) | (refine zW ?_; clear hg; intro w hg; refine WO.fr ?_) | (refine op_pureB hg ?_; clear hg; intro w hg c hc; cases c <;> refine WO.fr ?_))
  exact ret1 rfl ⟨rfl, hg.drop⟩
theorem wFloor_spec (hF : WinF pw p s f) (hO : Owns w0 f) : Calls Tryz.prog 67 #[.pointer (some ⟨pw, 0, none⟩)] w0 fun e w' => e = .returned (.int .i64 s.fl) ∧ Goes w0 [] [] w' := by
  have hg := Goes.refl w0
  have p1 : ∀ {w Fs}, Goes w0 [] Fs w → Calls Tryz.prog 102 #[.pointer (some ⟨pw, 0, none⟩), .func (.func 103) #[] #[]] w _ := fun h => ask_spec (fun h2 => wmade_spec hF ((hO.on h).on h2)) (fun h2 => wfloor_spec hF ((hO.on h).on h2))
  refine enter Tryz.func67 rfl (by simp only [Tryz.ntmps67, List.length_cons, List.length_nil, Nat.reduceAdd, Nat.reduceSub, List.replicate_succ, List.replicate_zero, List.cons_append, List.nil_append]; exact rfl) ?_
  repeat' (first | refine zN ?_ | (refine WC.quietG hg ?_; clear hg) | ((with_reducible refine WQ.nilG ?_); intro w hg) | (refine zB ?_; clear hg; intro b w hg; refine WO.fr ?_) | (refine zW ?_; clear hg; intro w hg; refine WO.fr ?_) | (refine op_pureB hg ?_; clear hg; intro w hg c hc; cases c <;> refine WO.fr ?_))
  exact ret1 rfl ⟨rfl, hg.drop⟩
theorem wEnd_spec (hF : WinF pw p s f) (hO : Owns w0 f) : Calls Tryz.prog 100 #[.pointer (some ⟨pw, 0, none⟩)] w0 fun e w' => e = .returned (.int .i64 s.all.length) ∧ Goes w0 [] [] w' := by
  have hg := Goes.refl w0
  have p1 : ∀ {w Fs}, Goes w0 [] Fs w → Calls Tryz.prog 102 #[.pointer (some ⟨pw, 0, none⟩), .func (.func 129) #[] #[]] w _ := fun h => ask_spec (fun h2 => wmade_spec hF ((hO.on h).on h2)) (fun h2 => wend_spec hF ((hO.on h).on h2))
  refine enter Tryz.func100 rfl (by simp only [Tryz.ntmps100, List.length_cons, List.length_nil, Nat.reduceAdd, Nat.reduceSub, List.replicate_succ, List.replicate_zero, List.cons_append, List.nil_append]; exact rfl) ?_
  repeat' (first | refine zN ?_ | (refine WC.quietG hg ?_; clear hg) | ((with_reducible refine WQ.nilG ?_); intro w hg) | (refine zB ?_; clear hg; intro b w hg; refine WO.fr ?_) | (refine zW ?_; clear hg; intro w hg; refine WO.fr ?_) | (refine op_pureB hg ?_; clear hg; intro w hg c hc; cases c <;> refine WO.fr ?_))
  exact ret1 rfl ⟨rfl, hg.drop⟩
theorem wRoom_spec (hF : WinF pw p s f) (hO : Owns w0 f) (hs : s.all.length ≤ 100000 ∧ s.low ≤ s.all.length ∧ p.bytes ≤ 4096) : Calls Tryz.prog 141 #[.pointer (some ⟨pw, 0, none⟩)] w0 fun e w' => e = .returned (.int .i64 (s.low + p.bytes - s.all.length)) ∧ Goes w0 [] [] w' := by
  have hg := Goes.refl w0
  have p1 : ∀ {w Fs}, Goes w0 [] Fs w → Calls Tryz.prog 102 #[.pointer (some ⟨pw, 0, none⟩), .func (.func 146) #[] #[]] w _ := fun h => ask_spec (fun h2 => wmade_spec hF ((hO.on h).on h2)) (fun h2 => wroom_spec hF ((hO.on h).on h2) hs)
  refine enter Tryz.func141 rfl (by simp only [Tryz.ntmps141, List.length_cons, List.length_nil, Nat.reduceAdd, Nat.reduceSub, List.replicate_succ, List.replicate_zero, List.cons_append, List.nil_append]; exact rfl) ?_
  repeat' (first | refine zN ?_ | (refine WC.quietG hg ?_; clear hg) | ((with_reducible refine WQ.nilG ?_); intro w hg) | (refine zB ?_; clear hg; intro b w hg; refine WO.fr ?_) | (refine zW ?_; clear hg; intro w hg; refine WO.fr ?_) | (refine op_pureB hg ?_; clear hg; intro w hg c hc; cases c <;> refine WO.fr ?_))
  exact ret1 rfl ⟨rfl, hg.drop⟩
end
end Go.Proofs.YtkdidefghbeabaaGreat
namespace Go.Proofs.YtkdidefghbeabaaGreat
open Go Go.RowKit
set_option maxRecDepth 10000
set_option linter.unusedSimpArgs false
set_option linter.unusedVariables false

def WS.need (s : WS) (t : Int) : WS := { s with low := (min (max t s.low) s.all.length).toNat }
/-- How far the floor is raised. -/
def WS.rise (s : WS) (most : Int) : Nat := (min (max most 1) ((s.low : Int) - s.fl)).toNat
def WS.recl (s : WS) (most : Int) : WS := { s with fl := s.fl + s.rise most, ws := s.ws.drop (rsweep s.ws ((s.fl + s.rise most : Nat) : Int) (max most 1)) }
def WS.reclN (s : WS) (most : Int) : Int := s.rise most + rsweep s.ws ((s.fl + s.rise most : Nat) : Int) (max most 1)
def WS.fits (B : Int) (s : WS) (n : Int) : Bool := decide (n ≤ B - ((s.all.length : Int) - s.fl)) || decide (s.fl = s.low)
def WS.make (B st : Int) (n : Int) (s : WS) : WS := if s.fits B n then s else s.recl st
def WS.makes (B st : Int) (n : Int) (s : WS) : Nat → WS
  | 0 => s
  | k + 1 => (WS.makes B st n s k).make B st n
def WS.made (B st : Int) (s : WS) (n : Int) : WS := WS.makes B st n s (B.toNat + 1)
def WS.fedN (B st : Int) (s : WS) (t : List UInt8) : Nat := min t.length (B - (((s.made B st t.length).all.length : Int) - (s.made B st t.length).fl)).toNat
def WS.feed (B st : Int) (s : WS) (t : List UInt8) : WS := { s.made B st t.length with all := (s.made B st t.length).all ++ t.take (s.fedN B st t) }
def WS.keepB (B : Int) (s : WS) (e : CE) : Bool := if e.at' < s.fl ∨ (s.all.length : Int) < e.at' then false else if (rput s.ws e (B + 1)).2 then true else (rput (s.ws.drop (rsweep s.ws s.fl 1)) e (B + 1)).2
def WS.keep (B : Int) (s : WS) (e : CE) : WS := if e.at' < s.fl ∨ (s.all.length : Int) < e.at' then s else if (rput s.ws e (B + 1)).2 then { s with ws := (rput s.ws e (B + 1)).1 } else { s with ws := (rput (s.ws.drop (rsweep s.ws s.fl 1)) e (B + 1)).1 }

theorem WOK.need {B : Int} {s : WS} (h : WOK B s) (t : Int) : WOK B (s.need t) := by
  have h1 := h.h1; have h2 := h.h2
  exact ⟨h.b1, h.b2, by simp only [WS.need]; omega, by simp only [WS.need]; omega, h.h3, h.h4⟩
theorem WOK.recl {B : Int} {s : WS} (h : WOK B s) (m : Int) : WOK B (s.recl m) := by
  have h1 := h.h1; have h3 := h.h3; have h4 := h.h4
  refine ⟨h.b1, h.b2, by simp only [WS.recl, WS.rise]; omega, h.h2, by simp only [WS.recl, WS.rise]; omega, ?_⟩
  simp only [WS.recl, List.length_drop]
  omega
theorem WOK.make {B st n : Int} {s : WS} (h : WOK B s) : WOK B (s.make B st n) := by
  unfold WS.make
  split
  · exact h
  · exact h.recl _
theorem WOK.makes {B st n : Int} {s : WS} (h : WOK B s) : ∀ k, WOK B (WS.makes B st n s k)
  | 0 => h
  | k + 1 => (WOK.makes h k).make
theorem WOK.feed {B st : Int} {s : WS} (h : WOK B s) (t : List UInt8) : WOK B (s.feed B st t) := by
  have hm : WOK B (s.made B st t.length) := WOK.makes h _
  have h2 := hm.h2; have h3 := hm.h3
  refine ⟨h.b1, h.b2, hm.h1, by simp only [WS.feed, List.length_append]; omega, ?_, hm.h4⟩
  simp only [WS.feed, WS.fedN, List.length_append, List.length_take]
  omega
theorem rput_room {ws : List CE} {e : CE} {room : Int} (h : (ws.length : Int) ≤ room) : ((rput ws e room).1.length : Int) ≤ room := by
  unfold rput
  have := ahead_le ws e.at'
  dsimp only
  split
  · rename_i ha
    obtain ⟨x, hx, _⟩ := Option.map_eq_some_iff.1 ha
    have := (List.getElem?_eq_some_iff.1 hx).1
    simp only [List.length_append, List.length_take, List.length_cons, List.length_drop]; omega
  · split
    · exact h
    · rename_i hr
      simp only [List.length_append, List.length_take, List.length_cons, List.length_drop]; omega
theorem WOK.keep {B : Int} {s : WS} (h : WOK B s) (e : CE) : WOK B (s.keep B e) := by
  unfold WS.keep
  have h4 := h.h4
  split
  · exact h
  · split
    · exact ⟨h.b1, h.b2, h.h1, h.h2, h.h3, rput_room h4⟩
    · exact ⟨h.b1, h.b2, h.h1, h.h2, h.h3, rput_room (by simp only [List.length_drop]; omega)⟩
end Go.Proofs.YtkdidefghbeabaaGreat
namespace Go.Proofs.YtkdidefghbeabaaGreat
open Go Go.RowKit
set_option maxRecDepth 10000
set_option linter.unusedSimpArgs false
set_option linter.unusedVariables false

def inB (n m : Int) : Bool := decide (1 ≤ n) && decide (n ≤ m)
def Prm.right (p : Prm) : Bool := inB p.bytes 4096 && inB p.step 4096 && inB p.trail 64 && inB p.marks 64 && inB p.ahead 16 && inB p.retries 16 && inB p.tickets 64

theorem in_spec (w0 : World) (n m : Int) : Calls Tryz.prog 59 #[.int .i64 n, .int .i64 m] w0 fun e w' => e = .returned (.bool (inB n m)) ∧ Goes w0 [] [] w' := by
  have hg := Goes.refl w0
  refine enter Tryz.func59 rfl (by simp only [Tryz.ntmps59, List.length_cons, List.length_nil, Nat.reduceAdd, Nat.reduceSub, List.replicate_succ, List.replicate_zero, List.cons_append, List.nil_append]; exact rfl) ?_
  by_cases h1 : 1 ≤ n
  · by_cases h2 : n ≤ m
    · rw [show inB n m = true from by simp [inB, h1, h2]]
      repeat' (first | refine zN ?_ | (refine WC.quietG hg ?_; clear hg) | ((with_reducible refine WQ.nilG ?_); intro w hg) | (refine zB ?_; clear hg; intro b w hg; refine WO.fr ?_) | (refine zW ?_; clear hg; intro w hg; refine WO.fr ?_) | (refine op_pureB hg ?_; clear hg; intro w hg c hc; cases c <;> refine WO.fr ?_))
      exact ret1 rfl ⟨rfl, hg.drop⟩
    · rw [show inB n m = false from by simp [inB, h2]]
      repeat' (first | refine zN ?_ | (refine WC.quietG hg ?_; clear hg) | ((with_reducible refine WQ.nilG ?_); intro w hg) | (refine zB ?_; clear hg; intro b w hg; refine WO.fr ?_) | (refine zW ?_; clear hg; intro w hg; refine WO.fr ?_) | (refine op_pureB hg ?_; clear hg; intro w hg c hc; cases c <;> refine WO.fr ?_))
      exact ret1 rfl ⟨rfl, hg.drop⟩
  · rw [show inB n m = false from by simp [inB, h1]]
    repeat' (first | refine zN ?_ | (refine WC.quietG hg ?_; clear hg) | ((with_reducible refine WQ.nilG ?_); intro w hg) | (refine zB ?_; clear hg; intro b w hg; refine WO.fr ?_) | (refine zW ?_; clear hg; intro w hg; refine WO.fr ?_) | (refine op_pureB hg ?_; clear hg; intro w hg c hc; cases c <;> refine WO.fr ?_))
    exact ret1 rfl ⟨rfl, hg.drop⟩
set_option maxHeartbeats 4000000 in
theorem wRight_spec (w0 : World) (p : Prm) : Calls Tryz.prog 29 #[.agg p.enc.toArray] w0 fun e w' => e = .returned (.bool p.right) ∧ Goes w0 [] [] w' := by
  have hg := Goes.refl w0
  simp only [Prm.enc]
  have p1 : ∀ {w Fs}, Goes w0 [] Fs w → Calls Tryz.prog 59 #[.int .i64 p.bytes, .int .i64 4096] w _ := fun _ => in_spec _ _ _
  have p2 : ∀ {w Fs}, Goes w0 [] Fs w → Calls Tryz.prog 59 #[.int .i64 p.step, .int .i64 4096] w _ := fun _ => in_spec _ _ _
  have p3 : ∀ {w Fs}, Goes w0 [] Fs w → Calls Tryz.prog 59 #[.int .i64 p.trail, .int .i64 64] w _ := fun _ => in_spec _ _ _
  have p4 : ∀ {w Fs}, Goes w0 [] Fs w → Calls Tryz.prog 59 #[.int .i64 p.marks, .int .i64 64] w _ := fun _ => in_spec _ _ _
  have p5 : ∀ {w Fs}, Goes w0 [] Fs w → Calls Tryz.prog 59 #[.int .i64 p.ahead, .int .i64 16] w _ := fun _ => in_spec _ _ _
  have p6 : ∀ {w Fs}, Goes w0 [] Fs w → Calls Tryz.prog 59 #[.int .i64 p.retries, .int .i64 16] w _ := fun _ => in_spec _ _ _
  have p7 : ∀ {w Fs}, Goes w0 [] Fs w → Calls Tryz.prog 59 #[.int .i64 p.tickets, .int .i64 64] w _ := fun _ => in_spec _ _ _
  unfold Prm.right
  refine enter Tryz.func29 rfl (by simp only [Tryz.ntmps29, List.length_cons, List.length_nil, Nat.reduceAdd, Nat.reduceSub, List.replicate_succ, List.replicate_zero, List.cons_append, List.nil_append]; exact rfl) ?_
  cases hb1 : inB p.bytes 4096 <;> rw [hb1] at p1
  · repeat' (first | refine zN ?_ | (refine WC.quietG hg ?_; clear hg) | ((with_reducible refine WQ.nilG ?_); intro w hg) | (refine zB ?_; clear hg; intro b w hg; refine WO.fr ?_) | (refine zW ?_; clear hg; intro w hg; refine WO.fr ?_) | (refine op_pureB hg ?_; clear hg; intro w hg c hc; cases c <;> refine WO.fr ?_))
    exact ret1 rfl ⟨rfl, hg.drop⟩
  cases hb2 : inB p.step 4096 <;> rw [hb2] at p2
  · repeat' (first | refine zN ?_ | (refine WC.quietG hg ?_; clear hg) | ((with_reducible refine WQ.nilG ?_); intro w hg) | (refine zB ?_; clear hg; intro b w hg; refine WO.fr ?_) | (refine zW ?_; clear hg; intro w hg; refine WO.fr ?_) | (refine op_pureB hg ?_; clear hg; intro w hg c hc; cases c <;> refine WO.fr ?_))
    exact ret1 rfl ⟨rfl, hg.drop⟩
  cases hb3 : inB p.trail 64 <;> rw [hb3] at p3
  · repeat' (first | refine zN ?_ | (refine WC.quietG hg ?_; clear hg) | ((with_reducible refine WQ.nilG ?_); intro w hg) | (refine zB ?_; clear hg; intro b w hg; refine WO.fr ?_) | (refine zW ?_; clear hg; intro w hg; refine WO.fr ?_) | (refine op_pureB hg ?_; clear hg; intro w hg c hc; cases c <;> refine WO.fr ?_))
    exact ret1 rfl ⟨rfl, hg.drop⟩
  cases hb4 : inB p.marks 64 <;> rw [hb4] at p4
  · repeat' (first | refine zN ?_ | (refine WC.quietG hg ?_; clear hg) | ((with_reducible refine WQ.nilG ?_); intro w hg) | (refine zB ?_; clear hg; intro b w hg; refine WO.fr ?_) | (refine zW ?_; clear hg; intro w hg; refine WO.fr ?_) | (refine op_pureB hg ?_; clear hg; intro w hg c hc; cases c <;> refine WO.fr ?_))
    exact ret1 rfl ⟨rfl, hg.drop⟩
  cases hb5 : inB p.ahead 16 <;> rw [hb5] at p5
  · repeat' (first | refine zN ?_ | (refine WC.quietG hg ?_; clear hg) | ((with_reducible refine WQ.nilG ?_); intro w hg) | (refine zB ?_; clear hg; intro b w hg; refine WO.fr ?_) | (refine zW ?_; clear hg; intro w hg; refine WO.fr ?_) | (refine op_pureB hg ?_; clear hg; intro w hg c hc; cases c <;> refine WO.fr ?_))
    exact ret1 rfl ⟨rfl, hg.drop⟩
  cases hb6 : inB p.retries 16 <;> rw [hb6] at p6
  · repeat' (first | refine zN ?_ | (refine WC.quietG hg ?_; clear hg) | ((with_reducible refine WQ.nilG ?_); intro w hg) | (refine zB ?_; clear hg; intro b w hg; refine WO.fr ?_) | (refine zW ?_; clear hg; intro w hg; refine WO.fr ?_) | (refine op_pureB hg ?_; clear hg; intro w hg c hc; cases c <;> refine WO.fr ?_))
    exact ret1 rfl ⟨rfl, hg.drop⟩
  cases hb7 : inB p.tickets 64 <;> rw [hb7] at p7
  · repeat' (first | refine zN ?_ | (refine WC.quietG hg ?_; clear hg) | ((with_reducible refine WQ.nilG ?_); intro w hg) | (refine zB ?_; clear hg; intro b w hg; refine WO.fr ?_) | (refine zW ?_; clear hg; intro w hg; refine WO.fr ?_) | (refine op_pureB hg ?_; clear hg; intro w hg c hc; cases c <;> refine WO.fr ?_))
    exact ret1 rfl ⟨rfl, hg.drop⟩
  repeat' (first | refine zN ?_ | (refine WC.quietG hg ?_; clear hg) | ((with_reducible refine WQ.nilG ?_); intro w hg) | (refine zB ?_; clear hg; intro b w hg; refine WO.fr ?_) | (refine zW ?_; clear hg; intro w hg; refine WO.fr ?_) | (refine op_pureB hg ?_; clear hg; intro w hg c hc; cases c <;> refine WO.fr ?_))
  exact ret1 rfl ⟨rfl, hg.drop⟩

def WS.zero : WS := ⟨0, 0, [], []⟩
theorem inB_iff {n m : Int} : inB n m = true ↔ 1 ≤ n ∧ n ≤ m := by simp [inB]
theorem right_iff {p : Prm} : p.right = true ↔ (1 ≤ p.bytes ∧ p.bytes ≤ 4096) ∧ (1 ≤ p.step ∧ p.step ≤ 4096) ∧ (1 ≤ p.trail ∧ p.trail ≤ 64) ∧ (1 ≤ p.marks ∧ p.marks ≤ 64) ∧ (1 ≤ p.ahead ∧ p.ahead ≤ 16) ∧ (1 ≤ p.retries ∧ p.retries ≤ 16) ∧ (1 ≤ p.tickets ∧ p.tickets ≤ 64) := by
  simp [Prm.right, inB_iff, and_assoc]
theorem WOK.zero {p : Prm} (h : p.right = true) : WOK p.bytes WS.zero := by
  obtain ⟨⟨h1, h2⟩, _⟩ := right_iff.1 h
  exact ⟨h1, h2, Nat.le_refl _, Nat.le_refl _, by simp [WS.zero]; omega, by simp [WS.zero]; omega⟩

set_option maxHeartbeats 2000000 in
theorem wNew_spec (w0 : World) (p : Prm) (h : p.right = true) : Calls Tryz.prog 24 #[.agg p.enc.toArray] w0 fun e w' => ∃ pw f, e = .returned (.tuple #[.pointer (some ⟨pw, 0, none⟩), .int .i64 0]) ∧ WinF pw p WS.zero f ∧ Goes w0 [] [f] w' := by
  have hg := Goes.refl w0
  have p1 : ∀ {w Fs}, Goes w0 [] Fs w → Calls Tryz.prog 29 #[.agg p.enc.toArray] w _ := fun _ => wRight_spec _ _
  rw [h] at p1
  obtain ⟨⟨hb1, hb2⟩, _⟩ := right_iff.1 h
  obtain ⟨n, hn⟩ : ∃ n : Nat, p.bytes = n := ⟨p.bytes.toNat, by omega⟩
  have r1 : ∀ w, Calls Tryz.prog 46 #[.int .i64 p.bytes] w fun e w' => ∃ pr f, e = .returned (.pointer (some ⟨pr, 0, none⟩)) ∧ RingF pr n (List.replicate n 0) 0 0 f ∧ Goes w [] [f] w' := fun w => by rw [hn]; exact rNew_spec w n (by omega) (by omega)
  simp only [Prm.enc] at p1 ⊢
  refine enter Tryz.func24 rfl (by simp only [Tryz.ntmps24, List.length_cons, List.length_nil, Nat.reduceAdd, Nat.reduceSub, List.replicate_succ, List.replicate_zero, List.cons_append, List.nil_append]; exact rfl) ?_
  repeat' (first | refine zN ?_ | (refine WC.quietG hg ?_; clear hg) | ((with_reducible refine WQ.nilG ?_); intro w hg) | (refine zB ?_; clear hg; intro b w hg; refine WO.fr ?_) | (refine zW ?_; clear hg; intro w hg; refine WO.fr ?_) | (refine op_pureB hg ?_; clear hg; intro w hg c hc; cases c <;> refine WO.fr ?_))
  have s1 : ∀ {w : World}, (w.heap[b]? = some (.cells [.int .i64 p.bytes, .int .i64 p.trail, .int .i64 p.marks, .int .i64 p.ahead, .int .i64 p.tickets, .int .i64 p.retries, .int .i64 p.step].toArray 28 (0, 0))) → w.cell? ⟨b, 0, none⟩ = some (.int .i64 p.bytes) := fun h => heap_cell h rfl
  have t1 : ∀ {w : World}, (w.heap[b]? = some (.cells [.int .i64 p.bytes, .int .i64 p.trail, .int .i64 p.marks, .int .i64 p.ahead, .int .i64 p.tickets, .int .i64 p.retries, .int .i64 p.step].toArray 28 (0, 0))) → Cells w ⟨b, 0, none⟩ [.int .i64 p.bytes, .int .i64 p.trail, .int .i64 p.marks, .int .i64 p.ahead, .int .i64 p.tickets, .int .i64 p.retries, .int .i64 p.step] := fun h => heap_cells h rfl
  refine WC.drawn (fun w => w.heap[b]? = some (.cells [.int .i64 p.bytes, .int .i64 p.trail, .int .i64 p.marks, .int .i64 p.ahead, .int .i64 p.tickets, .int .i64 p.retries, .int .i64 p.step].toArray 28 (0, 0))) [] hg ?_
  clear hg
  intro w hg
  have hS : (fun w => w.heap[b]? = some (.cells [.int .i64 p.bytes, .int .i64 p.trail, .int .i64 p.marks, .int .i64 p.ahead, .int .i64 p.tickets, .int .i64 p.retries, .int .i64 p.step].toArray 28 (0, 0))) w := hg.own (b, .cells [.int .i64 p.bytes, .int .i64 p.trail, .int .i64 p.marks, .int .i64 p.ahead, .int .i64 p.tickets, .int .i64 p.retries, .int .i64 p.step].toArray 28 (0, 0)) (by simp)
  refine WA.passM 0 hS ?_
  refine WA.passM 3 hS ?_
  refine WA.passM 1 hS ?_
  refine WA.passM 4 hS ?_
  refine WA.passM 5 hS ?_
  refine WA.passM 7 hS ?_
  refine WA.only 2 ?_
  refine op_call (r1 _) ?_
  rintro _ w ⟨pr, fr, rfl, hFr, hg2⟩
  replace hg := hg.call0 hg2
  simp only [List.cons_append, List.nil_append] at hg
  clear hg2 hS
  refine ⟨_, rfl, ?_⟩
  refine WO.fr ?_
  have hS : (fun w => w.heap[b]? = some (.cells [.int .i64 p.bytes, .int .i64 p.trail, .int .i64 p.marks, .int .i64 p.ahead, .int .i64 p.tickets, .int .i64 p.retries, .int .i64 p.step].toArray 28 (0, 0))) w := hg.own (b, .cells [.int .i64 p.bytes, .int .i64 p.trail, .int .i64 p.marks, .int .i64 p.ahead, .int .i64 p.tickets, .int .i64 p.retries, .int .i64 p.step].toArray 28 (0, 0)) (by simp)
  refine WO.nilA hS ?_
  refine WA.only 6 ?_
  refine op_call (CNew_spec _ _) ?_
  rintro _ w ⟨pc, fc, rfl, hFc, hg2⟩
  replace hg := hg.call0 hg2
  simp only [List.cons_append, List.nil_append] at hg
  clear hg2 hS
  refine ⟨_, rfl, ?_⟩
  refine WO.fr ?_
  have hS : (fun w => w.heap[b]? = some (.cells [.int .i64 p.bytes, .int .i64 p.trail, .int .i64 p.marks, .int .i64 p.ahead, .int .i64 p.tickets, .int .i64 p.retries, .int .i64 p.step].toArray 28 (0, 0))) w := hg.own (b, .cells [.int .i64 p.bytes, .int .i64 p.trail, .int .i64 p.marks, .int .i64 p.ahead, .int .i64 p.tickets, .int .i64 p.retries, .int .i64 p.step].toArray 28 (0, 0)) (by simp)
  refine WO.nilA hS ?_
  refine WA.passM 8 hS ?_
  refine WA.only 9 ?_
  refine op_boxA hg ?_
  clear hg hS
  intro pw w hg
  refine WO.fr ?_
  have hS : (fun w => w.heap[b]? = some (.cells [.int .i64 p.bytes, .int .i64 p.trail, .int .i64 p.marks, .int .i64 p.ahead, .int .i64 p.tickets, .int .i64 p.retries, .int .i64 p.step].toArray 28 (0, 0))) w := hg.own (b, .cells [.int .i64 p.bytes, .int .i64 p.trail, .int .i64 p.marks, .int .i64 p.ahead, .int .i64 p.tickets, .int .i64 p.retries, .int .i64 p.step].toArray 28 (0, 0)) (by simp)
  refine WO.nilA hS ?_
  refine WA.passM 10 hS ?_
  refine WA.passM 11 hS ?_
  refine WA.nil ?_
  repeat' (first | refine zN ?_ | (refine WC.quietG hg ?_; clear hg) | ((with_reducible refine WQ.nilG ?_); intro w hg) | (refine zB ?_; clear hg; intro b w hg; refine WO.fr ?_) | (refine zW ?_; clear hg; intro w hg; refine WO.fr ?_) | (refine op_pureB hg ?_; clear hg; intro w hg c hc; cases c <;> refine WO.fr ?_))
  rw [show min (max (p.bytes + 1) 1) 131072 = p.bytes + 1 from by omega] at hFc
  exact ret (.tmp rfl (.tmp rfl .nil)) ⟨pw, _, rfl, ⟨pr, pc, n, _, [], [], fr, fc, rfl, hn.symm, hFr, RingOK.new (by omega), hFc, CRel.empty⟩, ((((hg.front 3).front 2).front 3).front 3).unthree.sub (by simp [WS.zero])⟩

section
variable {pw : Nat} {p : Prm} {s : WS} {f : Frag} {w0 : World}
set_option maxHeartbeats 2000000 in
theorem wNeed_spec (t : Int) (hF : WinF pw p s f) (hO : Owns w0 f) (hK : WOK p.bytes s) : Calls Tryz.prog 123 #[.pointer (some ⟨pw, 0, none⟩), .int .i64 t] w0 fun e w' => ∃ f', e = .returned (.int .i64 (s.need t).low) ∧ WinF pw p (s.need t) f' ∧ Goes w0 (keys f) [f'] w' := by
  have hF0 := hF
  have p1 : ∀ {w}, Goes w0 (keys f) [f] w → Calls Tryz.prog 66 #[.pointer (some ⟨pw, 0, none⟩)] w _ := fun h => wmade_spec hF0 h.owns1
  have hg := hO.goes
  refine enter Tryz.func123 rfl (by simp only [Tryz.ntmps123, List.length_cons, List.length_nil, Nat.reduceAdd, Nat.reduceSub, List.replicate_succ, List.replicate_zero, List.cons_append, List.nil_append]; exact rfl) ?_
  repeat' (first | refine zN ?_ | (refine WC.quietG hg ?_; clear hg) | ((with_reducible refine WQ.nilG ?_); intro w hg) | (refine zB ?_; clear hg; intro b w hg; refine WO.fr ?_) | (refine zW ?_; clear hg; intro w hg; refine WO.fr ?_) | (refine op_pureB hg ?_; clear hg; intro w hg c hc; cases c <;> refine WO.fr ?_))
  obtain ⟨pr, pc, n, bl, m, h, fr, fc, rfl, hn, h1, h2, h3, h4⟩ := hF
  have hs2 := hK.h2
  have hv : min (max t (s.low : Int)) s.all.length = ((s.need t).low : Nat) := by simp only [WS.need]; omega
  have s1 : ∀ {w : World}, (w.heap[pw]? = some (.cells [.pointer (some ⟨pr, 0, none⟩), .pointer (some ⟨pc, 0, none⟩), .int .i64 p.bytes, .int .i64 p.trail, .int .i64 p.marks, .int .i64 p.ahead, .int .i64 p.tickets, .int .i64 p.retries, .int .i64 p.step, .int .i64 (s.low : Nat)].toArray 115 (0, 0))) → w.cell? ⟨pw, 9, none⟩ = some (.int .i64 s.low) := fun h => heap_cell h rfl
  refine WC.drawn (fun w => w.heap[pw]? = some (.cells [.pointer (some ⟨pr, 0, none⟩), .pointer (some ⟨pc, 0, none⟩), .int .i64 p.bytes, .int .i64 p.trail, .int .i64 p.marks, .int .i64 p.ahead, .int .i64 p.tickets, .int .i64 p.retries, .int .i64 p.step, .int .i64 (s.low : Nat)].toArray 115 (0, 0))) [12] hg ?_
  clear hg
  intro w hg
  have hS : (fun w => w.heap[pw]? = some (.cells [.pointer (some ⟨pr, 0, none⟩), .pointer (some ⟨pc, 0, none⟩), .int .i64 p.bytes, .int .i64 p.trail, .int .i64 p.marks, .int .i64 p.ahead, .int .i64 p.tickets, .int .i64 p.retries, .int .i64 p.step, .int .i64 (s.low : Nat)].toArray 115 (0, 0))) w := hg.own (pw, .cells [.pointer (some ⟨pr, 0, none⟩), .pointer (some ⟨pc, 0, none⟩), .int .i64 p.bytes, .int .i64 p.trail, .int .i64 p.marks, .int .i64 p.ahead, .int .i64 p.tickets, .int .i64 p.retries, .int .i64 p.step, .int .i64 (s.low : Nat)].toArray 115 (0, 0)) (by simp)
  refine WA.passM 0 hS ?_
  refine WA.passM 1 hS ?_
  refine WA.passM 2 hS ?_
  refine WA.passM 3 hS ?_
  refine WA.passM 4 hS ?_
  refine WA.passM 7 hS ?_
  refine WA.passM 5 hS ?_
  refine WA.passM 6 hS ?_
  refine WA.only 8 ?_
  refine op_pure hg ?_ (hc := wEnd_spec hF0 hg.owns1)
  clear hg hS
  intro w hg
  refine WO.fr ?_
  have hS : (fun w => w.heap[pw]? = some (.cells [.pointer (some ⟨pr, 0, none⟩), .pointer (some ⟨pc, 0, none⟩), .int .i64 p.bytes, .int .i64 p.trail, .int .i64 p.marks, .int .i64 p.ahead, .int .i64 p.tickets, .int .i64 p.retries, .int .i64 p.step, .int .i64 (s.low : Nat)].toArray 115 (0, 0))) w := hg.own (pw, .cells [.pointer (some ⟨pr, 0, none⟩), .pointer (some ⟨pc, 0, none⟩), .int .i64 p.bytes, .int .i64 p.trail, .int .i64 p.marks, .int .i64 p.ahead, .int .i64 p.tickets, .int .i64 p.retries, .int .i64 p.step, .int .i64 (s.low : Nat)].toArray 115 (0, 0)) (by simp)
  refine WO.nilA hS ?_
  refine WA.passM 9 hS ?_
  refine WA.passM 10 hS ?_
  refine WA.passM 11 hS ?_
  refine WA.only 12 ?_
  replace hg := hg.three
  clear hS
  refine op_store hg ?_
  clear hg
  intro w hg
  simp only [List.set_cons_succ, List.set_cons_zero] at hg
  rw [hv] at hg ⊢
  refine WO.fr ?_
  refine WO.nilL ?_
  refine WA.nil ?_
  clear s1
  repeat' (first | refine zN ?_ | (refine WC.quietG hg ?_; clear hg) | ((with_reducible refine WQ.nilG ?_); intro w hg) | (refine zB ?_; clear hg; intro b w hg; refine WO.fr ?_) | (refine zW ?_; clear hg; intro w hg; refine WO.fr ?_) | (refine op_pureB hg ?_; clear hg; intro w hg c hc; cases c <;> refine WO.fr ?_))
  exact ret1 rfl ⟨_, rfl, ⟨pr, pc, n, bl, m, h, fr, fc, rfl, hn, h1, h2, h3, h4⟩, hg.unthree⟩

set_option maxHeartbeats 4000000 in
theorem wReclaim_spec (most : Int) (hF : WinF pw p s f) (hO : Owns w0 f) (hK : WOK p.bytes s) (hal : s.all.length ≤ 100000) : Calls Tryz.prog 34 #[.pointer (some ⟨pw, 0, none⟩), .int .i64 most] w0 fun e w' => ∃ f', e = .returned (.int .i64 (s.reclN most)) ∧ WinF pw p (s.recl most) f' ∧ Goes w0 (keys f) [f'] w' := by
  have hF0 := hF
  have hs1 := hK.h1; have hs2 := hK.h2; have hs3 := hK.h3; have hs4 := hK.h4; have hb1 := hK.b1; have hb2 := hK.b2
  have p1 : ∀ {w}, Goes w0 (keys f) [f] w → Calls Tryz.prog 66 #[.pointer (some ⟨pw, 0, none⟩)] w _ := fun h => wmade_spec hF0 h.owns1
  have p2 : ∀ {w}, Goes w0 (keys f) [f] w → Calls Tryz.prog 67 #[.pointer (some ⟨pw, 0, none⟩)] w _ := fun h => wFloor_spec hF0 h.owns1
  have hr : min (max most 1) ((s.low : Int) - s.fl) = (s.rise most : Nat) := by simp only [WS.rise]; omega
  obtain ⟨pr, pc, n, bl, m, h, fr, fc, rfl, hn, h1, h2, h3, h4⟩ := hF
  have hg := hO.goes
  have c1 : ∀ {w : World}, Goes w0 (keys ([(pw, .cells [.pointer (some ⟨pr, 0, none⟩), .pointer (some ⟨pc, 0, none⟩), .int .i64 p.bytes, .int .i64 p.trail, .int .i64 p.marks, .int .i64 p.ahead, .int .i64 p.tickets, .int .i64 p.retries, .int .i64 p.step, .int .i64 (s.low : Nat)].toArray 115 (0, 0))] ++ (fr ++ fc))) [[(pw, .cells [.pointer (some ⟨pr, 0, none⟩), .pointer (some ⟨pc, 0, none⟩), .int .i64 p.bytes, .int .i64 p.trail, .int .i64 p.marks, .int .i64 p.ahead, .int .i64 p.tickets, .int .i64 p.retries, .int .i64 p.step, .int .i64 (s.low : Nat)].toArray 115 (0, 0))] ++ (fr ++ fc)] w → w.cell? ⟨pw, 9, none⟩ = some (.int .i64 s.low) := fun h => heap_cell (h.own (pw, .cells [.pointer (some ⟨pr, 0, none⟩), .pointer (some ⟨pc, 0, none⟩), .int .i64 p.bytes, .int .i64 p.trail, .int .i64 p.marks, .int .i64 p.ahead, .int .i64 p.tickets, .int .i64 p.retries, .int .i64 p.step, .int .i64 (s.low : Nat)].toArray 115 (0, 0)) (by simp)) rfl
  have hpos := h2.pos
  refine enter Tryz.func34 rfl (by simp only [Tryz.ntmps34, List.length_cons, List.length_nil, Nat.reduceAdd, Nat.reduceSub, List.replicate_succ, List.replicate_zero, List.cons_append, List.nil_append]; exact rfl) ?_
  repeat' (first | refine zN ?_ | ((with_reducible refine WQ.nilG ?_); intro w hg) | (refine zB ?_; clear hg; intro b w hg; refine WO.fr ?_) | (refine zW ?_; clear hg; intro w hg; refine WO.fr ?_) | (refine op_pureB hg ?_; clear hg; intro w hg c hc; cases c <;> refine WO.fr ?_))
  refine WC.quietG hg ?_
  clear hg
  repeat' (first
    | ((with_reducible refine WQ.nilG ?_); intro w hg)
    | ((with_reducible refine WQ.cid ?_); first | refine WQ.xG ?_ | refine WQ.pure ?_)
    | ((with_reducible refine WQ.gid ?_); first | refine WQ.on rfl ?_ | refine WQ.offN rfl rfl ?_ | refine WQ.offU rfl ?_))
  repeat' (first | refine zN ?_ | ((with_reducible refine WQ.nilG ?_); intro w hg) | (refine zB ?_; clear hg; intro b w hg; refine WO.fr ?_) | (refine zW ?_; clear hg; intro w hg; refine WO.fr ?_) | (refine op_pureB hg ?_; clear hg; intro w hg c hc; cases c <;> refine WO.fr ?_))
  have s1 : ∀ {w : World}, (w.heap[pw]? = some (.cells [.pointer (some ⟨pr, 0, none⟩), .pointer (some ⟨pc, 0, none⟩), .int .i64 p.bytes, .int .i64 p.trail, .int .i64 p.marks, .int .i64 p.ahead, .int .i64 p.tickets, .int .i64 p.retries, .int .i64 p.step, .int .i64 (s.low : Nat)].toArray 115 (0, 0))) → w.cell? ⟨pw, 0, none⟩ = some (.pointer (some ⟨pr, 0, none⟩)) := fun h => heap_cell h rfl
  refine WC.drawn (fun w => w.heap[pw]? = some (.cells [.pointer (some ⟨pr, 0, none⟩), .pointer (some ⟨pc, 0, none⟩), .int .i64 p.bytes, .int .i64 p.trail, .int .i64 p.marks, .int .i64 p.ahead, .int .i64 p.tickets, .int .i64 p.retries, .int .i64 p.step, .int .i64 (s.low : Nat)].toArray 115 (0, 0))) [] hg ?_
  clear hg
  intro w hg
  have hS : (fun w => w.heap[pw]? = some (.cells [.pointer (some ⟨pr, 0, none⟩), .pointer (some ⟨pc, 0, none⟩), .int .i64 p.bytes, .int .i64 p.trail, .int .i64 p.marks, .int .i64 p.ahead, .int .i64 p.tickets, .int .i64 p.retries, .int .i64 p.step, .int .i64 (s.low : Nat)].toArray 115 (0, 0))) w := hg.own (pw, .cells [.pointer (some ⟨pr, 0, none⟩), .pointer (some ⟨pc, 0, none⟩), .int .i64 p.bytes, .int .i64 p.trail, .int .i64 p.marks, .int .i64 p.ahead, .int .i64 p.tickets, .int .i64 p.retries, .int .i64 p.step, .int .i64 (s.low : Nat)].toArray 115 (0, 0)) (by simp)
  refine WA.passM 0 hS ?_
  refine WA.passM 1 hS ?_
  refine WA.passM 2 hS ?_
  refine WA.passM 4 hS ?_
  refine WA.passM 6 hS ?_
  refine WA.passM 7 hS ?_
  refine WA.passM 8 hS ?_
  refine WA.passM 3 hS ?_
  refine WA.only 5 ?_
  refine op_pure hg ?_ (hc := wFloor_spec hF0 hg.owns1)
  clear hg hS
  intro w hg
  refine WO.fr ?_
  have hS : (fun w => w.heap[pw]? = some (.cells [.pointer (some ⟨pr, 0, none⟩), .pointer (some ⟨pc, 0, none⟩), .int .i64 p.bytes, .int .i64 p.trail, .int .i64 p.marks, .int .i64 p.ahead, .int .i64 p.tickets, .int .i64 p.retries, .int .i64 p.step, .int .i64 (s.low : Nat)].toArray 115 (0, 0))) w := hg.own (pw, .cells [.pointer (some ⟨pr, 0, none⟩), .pointer (some ⟨pc, 0, none⟩), .int .i64 p.bytes, .int .i64 p.trail, .int .i64 p.marks, .int .i64 p.ahead, .int .i64 p.tickets, .int .i64 p.retries, .int .i64 p.step, .int .i64 (s.low : Nat)].toArray 115 (0, 0)) (by simp)
  refine WO.nilA hS ?_
  refine WA.passM 9 hS ?_
  refine WA.only 10 ?_
  have hr2 : s.fl + s.rise most ≤ s.low := by omega
  rw [hr]
  replace hg := hg.three
  refine op_call (rRaise_spec _ h1 (hg.front 1).owns1 hpos h2.fle (by omega)) ?_
  rw [show min (max (((s.fl : Nat) : Int) + (s.rise most : Nat)) (s.fl : Nat)) (s.all.length : Nat) = ((s.fl + s.rise most : Nat) : Int) from by omega]
  rintro _ w ⟨fr2, rfl, h1, hg2⟩
  replace hg := (hg.front 1).callF hg2
  clear hg2 hS
  rw [Int.toNat_natCast] at h1
  have h2' := h2.raise (fl' := s.fl + s.rise most) (by omega) (by omega)
  refine ⟨_, rfl, ?_⟩
  refine WO.fr ?_
  replace hg := (hg.front 1).unthree
  rw [show (((s.fl + s.rise most : Nat) : Int) - (s.fl : Nat)) = (s.rise most : Nat) from by omega]
  have hF1 : WinF pw p { s with fl := s.fl + s.rise most } ([(pw, .cells [.pointer (some ⟨pr, 0, none⟩), .pointer (some ⟨pc, 0, none⟩), .int .i64 p.bytes, .int .i64 p.trail, .int .i64 p.marks, .int .i64 p.ahead, .int .i64 p.tickets, .int .i64 p.retries, .int .i64 p.step, .int .i64 (s.low : Nat)].toArray 115 (0, 0))] ++ (fr2 ++ fc)) := ⟨pr, pc, n, bl, m, h, fr2, fc, rfl, hn, h1, h2', h3, h4⟩
  clear s1
  have hS : (fun w => w.heap[pw]? = some (.cells [.pointer (some ⟨pr, 0, none⟩), .pointer (some ⟨pc, 0, none⟩), .int .i64 p.bytes, .int .i64 p.trail, .int .i64 p.marks, .int .i64 p.ahead, .int .i64 p.tickets, .int .i64 p.retries, .int .i64 p.step, .int .i64 (s.low : Nat)].toArray 115 (0, 0))) w := hg.own (pw, .cells [.pointer (some ⟨pr, 0, none⟩), .pointer (some ⟨pc, 0, none⟩), .int .i64 p.bytes, .int .i64 p.trail, .int .i64 p.marks, .int .i64 p.ahead, .int .i64 p.tickets, .int .i64 p.retries, .int .i64 p.step, .int .i64 (s.low : Nat)].toArray 115 (0, 0)) (by simp)
  refine WO.nilA hS ?_
  refine WA.passM 11 hS ?_
  refine WA.nil ?_
  clear hS p1 p2 c1
  repeat' (first | refine zN ?_ | ((with_reducible refine WQ.nilG ?_); intro w hg) | (refine zB ?_; clear hg; intro b w hg; refine WO.fr ?_) | (refine zW ?_; clear hg; intro w hg; refine WO.fr ?_) | (refine op_pureB hg ?_; clear hg; intro w hg c hc; cases c <;> refine WO.fr ?_))
  have s1 : ∀ {w : World}, (w.heap[pw]? = some (.cells [.pointer (some ⟨pr, 0, none⟩), .pointer (some ⟨pc, 0, none⟩), .int .i64 p.bytes, .int .i64 p.trail, .int .i64 p.marks, .int .i64 p.ahead, .int .i64 p.tickets, .int .i64 p.retries, .int .i64 p.step, .int .i64 (s.low : Nat)].toArray 115 (0, 0))) → w.cell? ⟨pw, 1, none⟩ = some (.pointer (some ⟨pc, 0, none⟩)) := fun h => heap_cell h rfl
  refine WC.drawn (fun w => w.heap[pw]? = some (.cells [.pointer (some ⟨pr, 0, none⟩), .pointer (some ⟨pc, 0, none⟩), .int .i64 p.bytes, .int .i64 p.trail, .int .i64 p.marks, .int .i64 p.ahead, .int .i64 p.tickets, .int .i64 p.retries, .int .i64 p.step, .int .i64 (s.low : Nat)].toArray 115 (0, 0))) [] hg ?_
  clear hg
  intro w hg
  have hS : (fun w => w.heap[pw]? = some (.cells [.pointer (some ⟨pr, 0, none⟩), .pointer (some ⟨pc, 0, none⟩), .int .i64 p.bytes, .int .i64 p.trail, .int .i64 p.marks, .int .i64 p.ahead, .int .i64 p.tickets, .int .i64 p.retries, .int .i64 p.step, .int .i64 (s.low : Nat)].toArray 115 (0, 0))) w := hg.own (pw, .cells [.pointer (some ⟨pr, 0, none⟩), .pointer (some ⟨pc, 0, none⟩), .int .i64 p.bytes, .int .i64 p.trail, .int .i64 p.marks, .int .i64 p.ahead, .int .i64 p.tickets, .int .i64 p.retries, .int .i64 p.step, .int .i64 (s.low : Nat)].toArray 115 (0, 0)) (by simp)
  refine WA.passM 0 hS ?_
  refine WA.passM 1 hS ?_
  refine WA.passM 2 hS ?_
  refine WA.passM 3 hS ?_
  refine WA.passM 5 hS ?_
  refine WA.passM 7 hS ?_
  refine WA.passM 4 hS ?_
  refine WA.only 6 ?_
  refine op_pure hg ?_ (hc := wFloor_spec hF1 hg.owns1)
  clear hg hS
  intro w hg
  refine WO.fr ?_
  have hS : (fun w => w.heap[pw]? = some (.cells [.pointer (some ⟨pr, 0, none⟩), .pointer (some ⟨pc, 0, none⟩), .int .i64 p.bytes, .int .i64 p.trail, .int .i64 p.marks, .int .i64 p.ahead, .int .i64 p.tickets, .int .i64 p.retries, .int .i64 p.step, .int .i64 (s.low : Nat)].toArray 115 (0, 0))) w := hg.own (pw, .cells [.pointer (some ⟨pr, 0, none⟩), .pointer (some ⟨pc, 0, none⟩), .int .i64 p.bytes, .int .i64 p.trail, .int .i64 p.marks, .int .i64 p.ahead, .int .i64 p.tickets, .int .i64 p.retries, .int .i64 p.step, .int .i64 (s.low : Nat)].toArray 115 (0, 0)) (by simp)
  refine WO.nilA hS ?_
  refine WA.only 8 ?_
  replace hg := hg.three
  refine op_call (CSweep_spec _ _ (hg.front 2).owns1 h3 h4 (by omega)) ?_
  rintro _ w ⟨m3, h3', fc2, rfl, h3, h4, hg2⟩
  replace hg := (hg.front 2).callF hg2
  clear hg2 hS
  refine ⟨_, rfl, ?_⟩
  refine WO.fr ?_
  have hsw := rsweep_le s.ws ((s.fl + s.rise most : Nat) : Int) (max most 1)
  have hS : (fun w => w.heap[pw]? = some (.cells [.pointer (some ⟨pr, 0, none⟩), .pointer (some ⟨pc, 0, none⟩), .int .i64 p.bytes, .int .i64 p.trail, .int .i64 p.marks, .int .i64 p.ahead, .int .i64 p.tickets, .int .i64 p.retries, .int .i64 p.step, .int .i64 (s.low : Nat)].toArray 115 (0, 0))) w := hg.own (pw, .cells [.pointer (some ⟨pr, 0, none⟩), .pointer (some ⟨pc, 0, none⟩), .int .i64 p.bytes, .int .i64 p.trail, .int .i64 p.marks, .int .i64 p.ahead, .int .i64 p.tickets, .int .i64 p.retries, .int .i64 p.step, .int .i64 (s.low : Nat)].toArray 115 (0, 0)) (by simp)
  refine WO.nilA hS ?_
  refine WA.passM 9 hS ?_
  refine WA.passM 10 hS ?_
  refine WA.nil ?_
  repeat' (first | refine zN ?_ | ((with_reducible refine WQ.nilG ?_); intro w hg) | (refine zB ?_; clear hg; intro b w hg; refine WO.fr ?_) | (refine zW ?_; clear hg; intro w hg; refine WO.fr ?_) | (refine op_pureB hg ?_; clear hg; intro w hg c hc; cases c <;> refine WO.fr ?_))
  exact ret1 rfl ⟨_, rfl, ⟨pr, pc, n, bl, m3, h3', fr2, fc2, rfl, hn, h1, h2', h3, h4⟩, ((hg.front 2).front 2).unthree⟩
end
end Go.Proofs.YtkdidefghbeabaaGreat
namespace Go.Proofs.YtkdidefghbeabaaGreat
open Go Go.RowKit
set_option maxRecDepth 10000
set_option linter.unusedSimpArgs false
set_option linter.unusedVariables false

theorem fits_iff {B : Int} {s : WS} {n : Int} : s.fits B n = true ↔ (n ≤ B - ((s.all.length : Int) - s.fl)) ∨ s.fl = s.low := by simp [WS.fits]
section
variable {pw : Nat} {p : Prm} {s : WS} {f : Frag} {w0 : World}
set_option maxHeartbeats 4000000 in
theorem wMake_spec (k : Int) (hF : WinF pw p s f) (hO : Owns w0 f) (hK : WOK p.bytes s) (hal : s.all.length ≤ 100000) : Calls Tryz.prog 83 #[.pointer (some ⟨pw, 0, none⟩), .int .i64 k] w0 fun e w' => ∃ f', e = .returned (.bool (s.fits p.bytes k)) ∧ WinF pw p (s.make p.bytes p.step k) f' ∧ Goes w0 (keys f) [f'] w' := by
  have hF0 := hF
  have hs1 := hK.h1; have hs2 := hK.h2; have hs3 := hK.h3; have hs4 := hK.h4; have hb1 := hK.b1; have hb2 := hK.b2
  have p1 : ∀ {w}, Goes w0 (keys f) [f] w → Calls Tryz.prog 66 #[.pointer (some ⟨pw, 0, none⟩)] w _ := fun h => wmade_spec hF0 h.owns1
  have p2 : ∀ {w}, Goes w0 (keys f) [f] w → Calls Tryz.prog 67 #[.pointer (some ⟨pw, 0, none⟩)] w _ := fun h => wFloor_spec hF0 h.owns1
  obtain ⟨pr, pc, n, bl, m, h, fr, fc, rfl, hn, h1, h2, h3, h4⟩ := hF
  have hg := hO.goes
  have c1 : ∀ {w : World}, Goes w0 (keys ([(pw, .cells [.pointer (some ⟨pr, 0, none⟩), .pointer (some ⟨pc, 0, none⟩), .int .i64 p.bytes, .int .i64 p.trail, .int .i64 p.marks, .int .i64 p.ahead, .int .i64 p.tickets, .int .i64 p.retries, .int .i64 p.step, .int .i64 (s.low : Nat)].toArray 115 (0, 0))] ++ (fr ++ fc))) [[(pw, .cells [.pointer (some ⟨pr, 0, none⟩), .pointer (some ⟨pc, 0, none⟩), .int .i64 p.bytes, .int .i64 p.trail, .int .i64 p.marks, .int .i64 p.ahead, .int .i64 p.tickets, .int .i64 p.retries, .int .i64 p.step, .int .i64 (s.low : Nat)].toArray 115 (0, 0))] ++ (fr ++ fc)] w → w.cell? ⟨pw, 9, none⟩ = some (.int .i64 s.low) := fun h => heap_cell (h.own (pw, .cells [.pointer (some ⟨pr, 0, none⟩), .pointer (some ⟨pc, 0, none⟩), .int .i64 p.bytes, .int .i64 p.trail, .int .i64 p.marks, .int .i64 p.ahead, .int .i64 p.tickets, .int .i64 p.retries, .int .i64 p.step, .int .i64 (s.low : Nat)].toArray 115 (0, 0)) (by simp)) rfl
  have c2 : ∀ {w : World}, Goes w0 (keys ([(pw, .cells [.pointer (some ⟨pr, 0, none⟩), .pointer (some ⟨pc, 0, none⟩), .int .i64 p.bytes, .int .i64 p.trail, .int .i64 p.marks, .int .i64 p.ahead, .int .i64 p.tickets, .int .i64 p.retries, .int .i64 p.step, .int .i64 (s.low : Nat)].toArray 115 (0, 0))] ++ (fr ++ fc))) [[(pw, .cells [.pointer (some ⟨pr, 0, none⟩), .pointer (some ⟨pc, 0, none⟩), .int .i64 p.bytes, .int .i64 p.trail, .int .i64 p.marks, .int .i64 p.ahead, .int .i64 p.tickets, .int .i64 p.retries, .int .i64 p.step, .int .i64 (s.low : Nat)].toArray 115 (0, 0))] ++ (fr ++ fc)] w → w.cell? ⟨pw, 0, none⟩ = some (.pointer (some ⟨pr, 0, none⟩)) := fun h => heap_cell (h.own (pw, .cells [.pointer (some ⟨pr, 0, none⟩), .pointer (some ⟨pc, 0, none⟩), .int .i64 p.bytes, .int .i64 p.trail, .int .i64 p.marks, .int .i64 p.ahead, .int .i64 p.tickets, .int .i64 p.retries, .int .i64 p.step, .int .i64 (s.low : Nat)].toArray 115 (0, 0)) (by simp)) rfl
  have c3 : ∀ {w : World}, Goes w0 (keys ([(pw, .cells [.pointer (some ⟨pr, 0, none⟩), .pointer (some ⟨pc, 0, none⟩), .int .i64 p.bytes, .int .i64 p.trail, .int .i64 p.marks, .int .i64 p.ahead, .int .i64 p.tickets, .int .i64 p.retries, .int .i64 p.step, .int .i64 (s.low : Nat)].toArray 115 (0, 0))] ++ (fr ++ fc))) [[(pw, .cells [.pointer (some ⟨pr, 0, none⟩), .pointer (some ⟨pc, 0, none⟩), .int .i64 p.bytes, .int .i64 p.trail, .int .i64 p.marks, .int .i64 p.ahead, .int .i64 p.tickets, .int .i64 p.retries, .int .i64 p.step, .int .i64 (s.low : Nat)].toArray 115 (0, 0))] ++ (fr ++ fc)] w → w.cell? ⟨pw, 8, none⟩ = some (.int .i64 p.step) := fun h => heap_cell (h.own (pw, .cells [.pointer (some ⟨pr, 0, none⟩), .pointer (some ⟨pc, 0, none⟩), .int .i64 p.bytes, .int .i64 p.trail, .int .i64 p.marks, .int .i64 p.ahead, .int .i64 p.tickets, .int .i64 p.retries, .int .i64 p.step, .int .i64 (s.low : Nat)].toArray 115 (0, 0)) (by simp)) rfl
  have hpos := h2.pos
  have p3 : ∀ {w}, Goes w0 (keys ([(pw, .cells [.pointer (some ⟨pr, 0, none⟩), .pointer (some ⟨pc, 0, none⟩), .int .i64 p.bytes, .int .i64 p.trail, .int .i64 p.marks, .int .i64 p.ahead, .int .i64 p.tickets, .int .i64 p.retries, .int .i64 p.step, .int .i64 (s.low : Nat)].toArray 115 (0, 0))] ++ (fr ++ fc))) [[(pw, .cells [.pointer (some ⟨pr, 0, none⟩), .pointer (some ⟨pc, 0, none⟩), .int .i64 p.bytes, .int .i64 p.trail, .int .i64 p.marks, .int .i64 p.ahead, .int .i64 p.tickets, .int .i64 p.retries, .int .i64 p.step, .int .i64 (s.low : Nat)].toArray 115 (0, 0))] ++ (fr ++ fc)] w → Calls Tryz.prog 115 #[.pointer (some ⟨pr, 0, none⟩)] w _ := fun h => rLeft_spec h1 (h.owns1.parts).2.1.1 ⟨hpos, by omega⟩ ⟨by omega, by omega⟩
  refine enter Tryz.func83 rfl (by simp only [Tryz.ntmps83, List.length_cons, List.length_nil, Nat.reduceAdd, Nat.reduceSub, List.replicate_succ, List.replicate_zero, List.cons_append, List.nil_append]; exact rfl) ?_
  by_cases ha : k ≤ (n : Int) - ((s.all.length : Int) - s.fl)
  · have hfit : s.fits p.bytes k = true := fits_iff.2 (.inl (by omega))
    unfold WS.make
    rw [if_pos hfit, hfit]
    repeat' (first | refine zN ?_ | (refine WC.quietG hg ?_; clear hg) | ((with_reducible refine WQ.nilG ?_); intro w hg) | (refine zB ?_; clear hg; intro b w hg; refine WO.fr ?_) | (refine zW ?_; clear hg; intro w hg; refine WO.fr ?_) | (refine op_pureB hg ?_; clear hg; intro w hg c hc; cases c <;> refine WO.fr ?_))
    exact ret1 rfl ⟨_, rfl, hF0, hg⟩
  by_cases hb : s.fl = s.low
  · have hfit : s.fits p.bytes k = true := fits_iff.2 (.inr hb)
    unfold WS.make
    rw [if_pos hfit, hfit]
    repeat' (first | refine zN ?_ | (refine WC.quietG hg ?_; clear hg) | ((with_reducible refine WQ.nilG ?_); intro w hg) | (refine zB ?_; clear hg; intro b w hg; refine WO.fr ?_) | (refine zW ?_; clear hg; intro w hg; refine WO.fr ?_) | (refine op_pureB hg ?_; clear hg; intro w hg c hc; cases c <;> refine WO.fr ?_))
    exact ret1 rfl ⟨_, rfl, hF0, hg⟩
  have hfit : s.fits p.bytes k = false := by
    rw [Bool.eq_false_iff]
    intro h
    rcases fits_iff.1 h with h | h
    · omega
    · exact hb h
  unfold WS.make
  rw [hfit, if_neg (by decide)]
  repeat' (first | refine zN ?_ | (refine WC.quietG hg ?_; clear hg) | ((with_reducible refine WQ.nilG ?_); intro w hg) | (refine zB ?_; clear hg; intro b w hg; refine WO.fr ?_) | (refine zW ?_; clear hg; intro w hg; refine WO.fr ?_) | (refine op_pureB hg ?_; clear hg; intro w hg c hc; cases c <;> refine WO.fr ?_))
  refine op_call (wReclaim_spec p.step hF0 hg.owns1 hK hal) ?_
  rintro _ w2 ⟨f2, rfl, hF2, hg2⟩
  replace hg := hg.callF hg2
  clear hg2
  refine ⟨_, rfl, ?_⟩
  refine WO.fr ?_
  clear p1 p2 p3 c1 c2 c3
  repeat' (first | refine zN ?_ | (refine WC.quietG hg ?_; clear hg) | ((with_reducible refine WQ.nilG ?_); intro w hg) | (refine zB ?_; clear hg; intro b w hg; refine WO.fr ?_) | (refine zW ?_; clear hg; intro w hg; refine WO.fr ?_) | (refine op_pureB hg ?_; clear hg; intro w hg c hc; cases c <;> refine WO.fr ?_))
  exact ret1 rfl ⟨_, rfl, hF2, hg⟩

/-- The floor, as it lies. -/
def flAt (pw : Nat) (w : World) : Int := match w.cell? ⟨pw, 0, none⟩ with
  | some (.pointer (some a)) => match w.cell? ⟨a.block, 1, none⟩ with
    | some v => intOf v
    | none => 0
  | _ => 0
end
end Go.Proofs.YtkdidefghbeabaaGreat
