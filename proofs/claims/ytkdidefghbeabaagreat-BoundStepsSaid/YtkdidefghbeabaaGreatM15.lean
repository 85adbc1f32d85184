/- The scanner: move. The scanner: the measure; Step, Token, New. The scanner: Token, New. Trails: as they lie; New, Low, Push, Pop. -/
import Derived.Test.YtkdidefghbeabaaGreatM14
import Derived.Test.YtkdidefghbeabaaGreatM07
namespace Go.Proofs.YtkdidefghbeabaaGreat
open Go Go.RowKit
set_option maxRecDepth 10000
set_option linter.unusedSimpArgs false
set_option linter.unusedVariables false

theorem Goes.drop1 {w0 w : World} {M : List Nat} {f g : Frag} {Fs : List Frag} (h : Goes w0 M (f :: g :: Fs) w) : Goes w0 M (f :: Fs) w := h.tail1
/-- The function that tells a window's bytes. -/
abbrev rdV (pw : Nat) : Value := .func (.func 62) #[.pointer (some ⟨pw, 0, none⟩)] #[]
/-- What a move comes to. -/
inductive Mv (L : PLex) (fl E : Nat) (s s' : SC) : Int → Bool → Prop
  | read (h0 : openB L s = true) (h1 : (fl : Int) ≤ s.nx) (h2 : s.nx < E) (h3 : s'.fr = s.fr) (h4 : s'.nx = s.nx + 1) (h5 : s'.tok = s.tok) (h6 : SCOK L s') : Mv L fl E s s' 0 true
  | starved (h : s' = s) : Mv L fl E s s' 2 false
  | settled (h0 : s.fr < s.nx) (h : Settled L s s') : Mv L fl E s s' 0 false
  | ended (h0 : s.nx = s.fr) (h1 : s'.tok ≠ Tok.none) (h2 : s'.fr = s.fr) (h3 : s'.nx = s.nx) (h6 : SCOK L s') : Mv L fl E s s' 0 false
theorem Mv.ok {L : PLex} {fl E : Nat} {s s' : SC} {h : Int} {o : Bool} (H : Mv L fl E s s' h o) (hs : SCOK L s) : SCOK L s' := by
  cases H with
  | read _ _ _ _ _ _ h6 => exact h6
  | starved h => rw [h]; exact hs
  | settled _ h => exact h.1
  | ended _ _ _ _ h6 => exact h6

section
variable {W : World} {ps : Nat} {vm vd va : Value} {L : PLex} {s : SC} {Fs : List Frag} {w : World}
theorem openB_lt {L : PLex} {s : SC} (hs : SCOK L s) (h : openB L s = false) : s.fr < s.nx := by
  have := hs.f
  unfold openB at h
  simp only [Bool.or_eq_false_iff, decide_eq_false_iff_not] at h
  omega
set_option maxHeartbeats 8000000 in
theorem smove_spec {pw : Nat} {p : Prm} {ws : WS} {fw : Frag} (cl : Bool) (hW : WinF pw p ws fw) (hK : WOK p.bytes ws) (hal : ws.all.length ≤ 100000) (hL : LexAt W [vm, vd, va] L) (hok : LexOK L) (hs : SCOK L s) (hg : Goes W [] (scF ps vm vd va s :: fw :: Fs) w) :
    Calls Tryz.prog 97 #[.pointer (some ⟨ps, 0, none⟩), .agg #[rdV pw, .bool cl]] w fun e w' => ∃ s' how one, e = .returned (.tuple #[.int .i64 how, .bool one]) ∧ Mv L ws.fl ws.all.length s s' how one ∧ Goes W [] (scF ps vm vd va s' :: fw :: Fs) w' := by
  have hf := hs.f
  have p1 : ∀ {w Fs2 X}, Goes W [] (X :: scF ps vm vd va s :: Fs2) w → Calls Tryz.prog 99 #[.pointer (some ⟨ps, 0, none⟩)] w _ := fun h => sopen_spec hL hok hs (h.front 1)
  refine enter Tryz.func97 rfl (by simp only [Tryz.ntmps97, List.length_cons, List.length_nil, Nat.reduceAdd, Nat.reduceSub, List.replicate_succ, List.replicate_zero, List.cons_append, List.nil_append]; exact rfl) ?_
  cases ho : openB L s
  · rw [ho] at p1
    repeat' (first | refine zN ?_ | ((with_reducible refine WQ.nilG ?_); intro w hg) | (refine zB ?_; clear hg; intro b w hg; refine WO.fr ?_) | (refine zW ?_; clear hg; intro w hg; refine WO.fr ?_) | (refine op_pureB hg ?_; clear hg; intro w hg c hc; cases c <;> refine WO.fr ?_))
    refine op_call (ssettle_spec hL hok hs (openB_lt hs ho) (hg.front 1)) ?_
    rintro _ w2 ⟨s', ⟨v, rfl⟩, hS, hg2⟩
    clear hg
    refine ⟨_, rfl, ?_⟩
    refine WO.fr ?_
    have hg := hg2
    repeat' (first | refine zN ?_ | ((with_reducible refine WQ.nilG ?_); intro w hg) | (refine zB ?_; clear hg; intro b w hg; refine WO.fr ?_) | (refine zW ?_; clear hg; intro w hg; refine WO.fr ?_) | (refine op_pureB hg ?_; clear hg; intro w hg c hc; cases c <;> refine WO.fr ?_))
    exact ret (.tmp rfl (.tmp rfl .nil)) ⟨s', 0, false, rfl, .settled (openB_lt hs ho) hS, hg.drop1⟩
  rw [ho] at p1
  repeat' (first | refine zN ?_ | ((with_reducible refine WQ.nilG ?_); intro w hg) | (refine zB ?_; clear hg; intro b w hg; refine WO.fr ?_) | (refine zW ?_; clear hg; intro w hg; refine WO.fr ?_) | (refine op_pureB hg ?_; clear hg; intro w hg c hc; cases c <;> refine WO.fr ?_))
  clear p1
  have s1 : ∀ {w : World}, (w.heap[ps]? = some (.cells [vm, vd, va, .int .i64 s.at0, .int .i64 s.md0, .int .i64 s.mode, .int .i64 s.fr, .int .i64 s.nx, .int .i64 s.st, .int .i64 s.rule, .int .i64 s.to, .int .i64 s.tok.kind, .int .i64 s.tok.rule, .int .i64 s.tok.fr, .int .i64 s.tok.at', .int .i64 s.tok.to, .int .i64 s.tok.mode, .int .i64 s.reads].toArray 157 (0, 0)) ∧ w.heap[b]? = some (.cells [rdV pw, .bool cl].toArray 161 (0, 0))) → w.cell? ⟨b, 0, none⟩ = some (rdV pw) := fun h => heap_cell h.2 rfl
  have s2 : ∀ {w : World}, (w.heap[ps]? = some (.cells [vm, vd, va, .int .i64 s.at0, .int .i64 s.md0, .int .i64 s.mode, .int .i64 s.fr, .int .i64 s.nx, .int .i64 s.st, .int .i64 s.rule, .int .i64 s.to, .int .i64 s.tok.kind, .int .i64 s.tok.rule, .int .i64 s.tok.fr, .int .i64 s.tok.at', .int .i64 s.tok.to, .int .i64 s.tok.mode, .int .i64 s.reads].toArray 157 (0, 0)) ∧ w.heap[b]? = some (.cells [rdV pw, .bool cl].toArray 161 (0, 0))) → w.cell? ⟨ps, 7, none⟩ = some (.int .i64 s.nx) := fun h => heap_cell h.1 rfl
  refine WC.drawn (fun w => w.heap[ps]? = some (.cells [vm, vd, va, .int .i64 s.at0, .int .i64 s.md0, .int .i64 s.mode, .int .i64 s.fr, .int .i64 s.nx, .int .i64 s.st, .int .i64 s.rule, .int .i64 s.to, .int .i64 s.tok.kind, .int .i64 s.tok.rule, .int .i64 s.tok.fr, .int .i64 s.tok.at', .int .i64 s.tok.to, .int .i64 s.tok.mode, .int .i64 s.reads].toArray 157 (0, 0)) ∧ w.heap[b]? = some (.cells [rdV pw, .bool cl].toArray 161 (0, 0))) [] hg ?_
  clear hg
  intro w hg
  have hS : (fun w => w.heap[ps]? = some (.cells [vm, vd, va, .int .i64 s.at0, .int .i64 s.md0, .int .i64 s.mode, .int .i64 s.fr, .int .i64 s.nx, .int .i64 s.st, .int .i64 s.rule, .int .i64 s.to, .int .i64 s.tok.kind, .int .i64 s.tok.rule, .int .i64 s.tok.fr, .int .i64 s.tok.at', .int .i64 s.tok.to, .int .i64 s.tok.mode, .int .i64 s.reads].toArray 157 (0, 0)) ∧ w.heap[b]? = some (.cells [rdV pw, .bool cl].toArray 161 (0, 0))) w := ⟨hg.own (ps, .cells [vm, vd, va, .int .i64 s.at0, .int .i64 s.md0, .int .i64 s.mode, .int .i64 s.fr, .int .i64 s.nx, .int .i64 s.st, .int .i64 s.rule, .int .i64 s.to, .int .i64 s.tok.kind, .int .i64 s.tok.rule, .int .i64 s.tok.fr, .int .i64 s.tok.at', .int .i64 s.tok.to, .int .i64 s.tok.mode, .int .i64 s.reads].toArray 157 (0, 0)) (by simp [scF]), hg.own (b, .cells [rdV pw, .bool cl].toArray 161 (0, 0)) (by simp)⟩
  refine WA.passM 0 hS ?_
  refine WA.passM 2 hS ?_
  refine WA.passM 3 hS ?_
  refine WA.passM 4 hS ?_
  refine WA.passM 5 hS ?_
  refine WA.passM 1 hS ?_
  refine WA.passM 6 hS ?_
  refine WA.only 7 ?_
  refine op_callV (fs := [.pointer (some ⟨pw, 0, none⟩)]) (cs := []) (f := 62) (wAt_spec s.nx hW (hg.front 2).owns1 hK) ?_
  rintro _ w ⟨⟨c, rfl⟩, hg2⟩
  replace hg := hg.call00 hg2
  clear hg2 hS
  refine ⟨_, rfl, ?_⟩
  refine WO.fr ?_
  have hS : (fun w => w.heap[ps]? = some (.cells [vm, vd, va, .int .i64 s.at0, .int .i64 s.md0, .int .i64 s.mode, .int .i64 s.fr, .int .i64 s.nx, .int .i64 s.st, .int .i64 s.rule, .int .i64 s.to, .int .i64 s.tok.kind, .int .i64 s.tok.rule, .int .i64 s.tok.fr, .int .i64 s.tok.at', .int .i64 s.tok.to, .int .i64 s.tok.mode, .int .i64 s.reads].toArray 157 (0, 0)) ∧ w.heap[b]? = some (.cells [rdV pw, .bool cl].toArray 161 (0, 0))) w := ⟨hg.own (ps, .cells [vm, vd, va, .int .i64 s.at0, .int .i64 s.md0, .int .i64 s.mode, .int .i64 s.fr, .int .i64 s.nx, .int .i64 s.st, .int .i64 s.rule, .int .i64 s.to, .int .i64 s.tok.kind, .int .i64 s.tok.rule, .int .i64 s.tok.fr, .int .i64 s.tok.at', .int .i64 s.tok.to, .int .i64 s.tok.mode, .int .i64 s.reads].toArray 157 (0, 0)) (by simp [scF]), hg.own (b, .cells [rdV pw, .bool cl].toArray 161 (0, 0)) (by simp)⟩
  refine WO.nilA hS ?_
  refine WA.passM 8 hS ?_
  refine WA.passM 9 hS ?_
  refine WA.passM 10 hS ?_
  refine WA.passM 11 hS ?_
  refine WA.passM 12 hS ?_
  refine WA.nil ?_
  clear hS s1 s2
  by_cases hin : (ws.fl : Int) ≤ s.nx ∧ s.nx < ws.all.length
  · rw [decide_eq_true hin.1, decide_eq_true hin.2]
    repeat' (first | refine zN ?_ | ((with_reducible refine WQ.nilG ?_); intro w hg) | (refine zB ?_; clear hg; intro b w hg; refine WO.fr ?_) | (refine zW ?_; clear hg; intro w hg; refine WO.fr ?_) | (refine op_pureB hg ?_; clear hg; intro w hg c hc; cases c <;> refine WO.fr ?_))
    refine op_call (son_spec c hL hok hs (by omega) (hg.front 1)) ?_
    rintro _ w2 ⟨st, rule, to, rd, ⟨v, rfl⟩, hS, hg2⟩
    clear hg
    refine ⟨_, rfl, ?_⟩
    refine WO.fr ?_
    have hg := hg2
    repeat' (first | refine zN ?_ | ((with_reducible refine WQ.nilG ?_); intro w hg) | (refine zB ?_; clear hg; intro b w hg; refine WO.fr ?_) | (refine zW ?_; clear hg; intro w hg; refine WO.fr ?_) | (refine op_pureB hg ?_; clear hg; intro w hg c hc; cases c <;> refine WO.fr ?_))
    exact ret (.tmp rfl (.tmp rfl .nil)) ⟨{ s with nx := s.nx + 1, st := st, rule := rule, to := to, reads := rd }, 0, true, rfl, .read ho hin.1 hin.2 rfl rfl rfl hS, hg.drop1⟩
  have hnot : (decide ((ws.fl : Int) ≤ s.nx) && decide (s.nx < ws.all.length)) = false := by
    rw [Bool.and_eq_false_iff, decide_eq_false_iff_not, decide_eq_false_iff_not]
    omega
  rw [hnot]
  cases cl
  · repeat' (first | refine zN ?_ | ((with_reducible refine WQ.nilG ?_); intro w hg) | (refine zB ?_; clear hg; intro b w hg; refine WO.fr ?_) | (refine zW ?_; clear hg; intro w hg; refine WO.fr ?_) | (refine op_pureB hg ?_; clear hg; intro w hg c hc; cases c <;> refine WO.fr ?_))
    exact ret (.tmp rfl (.tmp rfl .nil)) ⟨s, 2, false, rfl, .starved rfl, hg.drop0⟩
  by_cases hfr : s.nx = s.fr
  · repeat' (first | refine zN ?_ | (refine WC.quietG hg ?_; clear hg) | ((with_reducible refine WQ.nilG ?_); intro w hg) | (refine zB ?_; clear hg; intro b w hg; refine WO.fr ?_) | (refine zW ?_; clear hg; intro w hg; refine WO.fr ?_) | (refine op_pureB hg ?_; clear hg; intro w hg c hc; cases c <;> refine WO.fr ?_))
    refine op_call (send_spec (hg.front 1)) ?_
    rintro _ w2 ⟨⟨v, rfl⟩, hg2⟩
    clear hg
    refine ⟨_, rfl, ?_⟩
    refine WO.fr ?_
    have hg := hg2
    repeat' (first | refine zN ?_ | ((with_reducible refine WQ.nilG ?_); intro w hg) | (refine zB ?_; clear hg; intro b w hg; refine WO.fr ?_) | (refine zW ?_; clear hg; intro w hg; refine WO.fr ?_) | (refine op_pureB hg ?_; clear hg; intro w hg c hc; cases c <;> refine WO.fr ?_))
    exact ret (.tmp rfl (.tmp rfl .nil)) ⟨s.ended, 0, false, rfl, .ended hfr (by simp [SC.ended, Tok.none]) rfl rfl ⟨hs.m, hs.f, hs.n, hs.st, hs.r⟩, hg.drop1⟩
  · repeat' (first | refine zN ?_ | (refine WC.quietG hg ?_; clear hg) | ((with_reducible refine WQ.nilG ?_); intro w hg) | (refine zB ?_; clear hg; intro b w hg; refine WO.fr ?_) | (refine zW ?_; clear hg; intro w hg; refine WO.fr ?_) | (refine op_pureB hg ?_; clear hg; intro w hg c hc; cases c <;> refine WO.fr ?_))
    refine op_call (ssettle_spec hL hok hs (by omega) (hg.front 1)) ?_
    rintro _ w2 ⟨s', ⟨v, rfl⟩, hS, hg2⟩
    clear hg
    refine ⟨_, rfl, ?_⟩
    refine WO.fr ?_
    have hg := hg2
    repeat' (first | refine zN ?_ | ((with_reducible refine WQ.nilG ?_); intro w hg) | (refine zB ?_; clear hg; intro b w hg; refine WO.fr ?_) | (refine zW ?_; clear hg; intro w hg; refine WO.fr ?_) | (refine op_pureB hg ?_; clear hg; intro w hg c hc; cases c <;> refine WO.fr ?_))
    exact ret (.tmp rfl (.tmp rfl .nil)) ⟨s', 0, false, rfl, .settled (by omega) hS, hg.drop1⟩
end
end Go.Proofs.YtkdidefghbeabaaGreat
namespace Go.Proofs.YtkdidefghbeabaaGreat
open Go Go.RowKit
set_option maxRecDepth 10000
set_option linter.unusedSimpArgs false
set_option linter.unusedVariables false

/-- How many bytes may still be read, where B are kept and they end at E. -/
def SC.m (B E : Nat) (s : SC) : Nat := min B (E - s.nx).toNat + min B (E - s.fr - 1).toNat * B
/-- What was read from is kept. -/
def SC.near (B E : Nat) (s : SC) : Prop := s.fr < s.nx → (E : Int) ≤ s.fr + B
theorem SC.m_le (B E : Nat) (s : SC) : s.m B E ≤ B + B * B := by
  unfold SC.m
  have h1 : min B (E - s.fr - 1).toNat * B ≤ B * B := Nat.mul_le_mul_right _ (Nat.min_le_left _ _)
  omega
theorem m_anew {B E : Nat} {fr to : Int} {nx : Int} (h1 : (E : Int) ≤ fr + B) (h2 : fr < to) : min B (E - to).toNat + min B (E - to - 1).toNat * B ≤ min B (E - nx).toNat + min B (E - fr - 1).toNat * B := by
  by_cases hE : (E : Int) ≤ to
  · rw [show (E - to).toNat = 0 by omega, show (E - to - 1).toNat = 0 by omega]
    simp
  · obtain ⟨k, hk⟩ : ∃ k : Nat, (E - fr - 1).toNat = k + 1 := ⟨(E - fr - 1).toNat - 1, by omega⟩
    have e1 : min B (E - fr - 1).toNat = k + 1 := by omega
    have e2 : min B (E - to - 1).toNat ≤ k := by omega
    rw [e1, Nat.add_mul, Nat.one_mul]
    have h3 : min B (E - to - 1).toNat * B ≤ k * B := Nat.mul_le_mul_right _ e2
    omega
theorem Mv.m {L : PLex} {fl E B : Nat} {s s' : SC} {h : Int} {o : Bool} (H : Mv L fl E s s' h o) (hE : (E : Int) ≤ fl + B) (hs : SCOK L s) (hn : s.near B E) : s'.near B E ∧ s'.m B E + (if o then 1 else 0) ≤ s.m B E := by
  have hf := hs.f
  cases H with
  | read h0 h1 h2 h3 h4 h5 h6 =>
    refine ⟨fun hlt => ?_, ?_⟩
    · rw [h3]
      by_cases hfr : s.fr < s.nx
      · exact hn hfr
      · omega
    · unfold SC.m
      rw [h3, h4]
      have : min B (E - (s.nx + 1)).toNat + 1 = min B (E - s.nx).toNat := by omega
      simp only [if_true]
      omega
  | starved h => subst h; exact ⟨hn, Nat.le_refl _⟩
  | settled h0 h =>
    rcases h.2 with ⟨_, h2, h3⟩ | ⟨_, h2, h3, h4⟩
    · refine ⟨fun hlt => ?_, ?_⟩
      · rw [h2]; exact hn h0
      · unfold SC.m
        rw [h2, h3]
        exact Nat.le_refl _
    · refine ⟨fun hlt => by omega, ?_⟩
      have := m_anew (B := B) (E := E) (nx := s.nx) (hn h0) h2
      unfold SC.m
      rw [h4]
      exact this
  | ended h0 h1 h2 h3 h6 =>
    refine ⟨fun hlt => by omega, ?_⟩
    unfold SC.m
    rw [h2, h3]
    exact Nat.le_refl _

theorem Goes.swap2 {w0 w : World} {M : List Nat} {f g h : Frag} {Fs : List Frag} (hg : Goes w0 M (f :: g :: h :: Fs) w) : Goes w0 M (f :: h :: g :: Fs) w := hg.perm (by simp only [List.flatten_cons]; exact List.Perm.append_left _ (by simp only [← List.append_assoc]; exact List.Perm.append_right _ List.perm_append_comm))
/-- A loop by a number that falls. -/
theorem WC.loopE {P : Program} {r : Option Nat} {Q : Exit → Go.Act → World → Prop} {l : List Value} {d : List Deferred} {w : World} {c : Code} (X : List Tmp) (I : Nat → List Value → List Deferred → World → Prop) (h0 : ∃ n0, I n0 (X.map (gt l)) d w)
    (round : ∀ n xs d w, xs.length = X.length → I n xs d w → ∀ K : Go.Act → World → Prop, (∀ l' d' w', setAll l X (X.map (gt l')) = l' → (∃ m, m < n ∧ I m (X.map (gt l')) d' w') → K (St l' d') w') → WC P r c (Exit.then K Q) (setAll l X xs) d w) :
    WC P r (.loop c) Q l d w := WC.loopN X I h0 (fun n xs d w hl hI K hK => round n xs d w hl hI K (fun l' d' w' h ⟨m, h1, h2⟩ => hK l' d' w' m h h2 h1))
/-- What a step comes to. -/
structure Stp (L : PLex) (B E : Nat) (s s' : SC) (r : Int) : Prop where
  ok : SCOK L s'
  rr : r = 0 ∨ r = 1 ∨ r = 2
  known : r = 1 → s'.tok ≠ Tok.none
  un : r ≠ 1 → s'.tok = Tok.none
  near : s.near B E → s'.near B E ∧ (r = 0 → s'.m B E < s.m B E)

section
variable {W : World} {ps : Nat} {vm vd va : Value} {L : PLex} {s : SC} {Fs : List Frag} {w : World}
set_option maxHeartbeats 8000000 in
theorem sStep_spec {pw B : Nat} {p : Prm} {ws : WS} {fw : Frag} (cl : Bool) (bud : Int) (hb : bud ≤ 100000) (hB : p.bytes = B) (hW : WinF pw p ws fw) (hWk : WOK p.bytes ws) (hal : ws.all.length ≤ 100000) (hL : LexAt W [vm, vd, va] L) (hok : LexOK L) (hs : SCOK L s) (ht : s.tok = Tok.none) (hg : Goes W [] (scF ps vm vd va s :: fw :: Fs) w) :
    Calls Tryz.prog 63 #[.pointer (some ⟨ps, 0, none⟩), rdV pw, .bool cl, .int .i64 bud] w fun e w' => ∃ s' r, e = .returned (.int .i64 r) ∧ Stp L B ws.all.length s s' r ∧ Goes W [] (scF ps vm vd va s' :: fw :: Fs) w' := by
  obtain ⟨b0, hb0⟩ : ∃ b0 : Nat, max bud 1 = b0 := ⟨(max bud 1).toNat, by omega⟩
  have h3 := hWk.h3
  have hb01 : 1 ≤ b0 := by omega
  have hE : (ws.all.length : Int) ≤ ws.fl + B := by omega
  clear h3
  refine enter Tryz.func63 rfl (by simp only [Tryz.ntmps63, List.length_cons, List.length_nil, Nat.reduceAdd, Nat.reduceSub, List.replicate_succ, List.replicate_zero, List.cons_append, List.nil_append]; exact rfl) ?_
  repeat' (first | refine zN ?_ | ((with_reducible refine WQ.nilG ?_); intro w hg) | (refine zB ?_; clear hg; intro b w hg; refine WO.fr ?_) | (refine zW ?_; clear hg; intro w hg; refine WO.fr ?_) | (refine op_pureB hg ?_; clear hg; intro w hg c hc; cases c <;> refine WO.fr ?_))
  rw [hb0]
  refine WC.loopE [3, 8, 11, 12, 26, 27, 28, 29, 30, 31, 32, 33, 34, 35, 36, 37, 38, 39, 40, 41, 42, 43, 44, 45] (fun n xs d w => ∃ (sc : SC) (k : Nat), d = [] ∧ (gt xs 0) = .int .i64 k ∧ k ≤ b0 ∧ SCOK L sc ∧ (s.near B ws.all.length → sc.near B ws.all.length ∧ sc.m B ws.all.length + (b0 - k) ≤ s.m B ws.all.length) ∧ n = 2 * k + (if sc.fr < sc.nx then 1 else 0) + (if sc.tok = Tok.none then 2 else 0) ∧ Goes W [] ([(b, .cells [rdV pw, .bool cl].toArray 161 (0, 0))] :: scF ps vm vd va sc :: fw :: Fs) w) ?_ ?_
  · exact ⟨_, s, b0, rfl, rfl, Nat.le_refl _, hs, fun h => ⟨h, by omega⟩, rfl, hg⟩
  clear hg
  intro n xs d w hlen hI K hK
  replace hlen := len_cons hlen
  obtain ⟨x3, xs, rfl, hlen⟩ := hlen
  replace hlen := len_cons hlen
  obtain ⟨x8, xs, rfl, hlen⟩ := hlen
  replace hlen := len_cons hlen
  obtain ⟨x11, xs, rfl, hlen⟩ := hlen
  replace hlen := len_cons hlen
  obtain ⟨x12, xs, rfl, hlen⟩ := hlen
  replace hlen := len_cons hlen
  obtain ⟨x26, xs, rfl, hlen⟩ := hlen
  replace hlen := len_cons hlen
  obtain ⟨x27, xs, rfl, hlen⟩ := hlen
  replace hlen := len_cons hlen
  obtain ⟨x28, xs, rfl, hlen⟩ := hlen
  replace hlen := len_cons hlen
  obtain ⟨x29, xs, rfl, hlen⟩ := hlen
  replace hlen := len_cons hlen
  obtain ⟨x30, xs, rfl, hlen⟩ := hlen
  replace hlen := len_cons hlen
  obtain ⟨x31, xs, rfl, hlen⟩ := hlen
  replace hlen := len_cons hlen
  obtain ⟨x32, xs, rfl, hlen⟩ := hlen
  replace hlen := len_cons hlen
  obtain ⟨x33, xs, rfl, hlen⟩ := hlen
  replace hlen := len_cons hlen
  obtain ⟨x34, xs, rfl, hlen⟩ := hlen
  replace hlen := len_cons hlen
  obtain ⟨x35, xs, rfl, hlen⟩ := hlen
  replace hlen := len_cons hlen
  obtain ⟨x36, xs, rfl, hlen⟩ := hlen
  replace hlen := len_cons hlen
  obtain ⟨x37, xs, rfl, hlen⟩ := hlen
  replace hlen := len_cons hlen
  obtain ⟨x38, xs, rfl, hlen⟩ := hlen
  replace hlen := len_cons hlen
  obtain ⟨x39, xs, rfl, hlen⟩ := hlen
  replace hlen := len_cons hlen
  obtain ⟨x40, xs, rfl, hlen⟩ := hlen
  replace hlen := len_cons hlen
  obtain ⟨x41, xs, rfl, hlen⟩ := hlen
  replace hlen := len_cons hlen
  obtain ⟨x42, xs, rfl, hlen⟩ := hlen
  replace hlen := len_cons hlen
  obtain ⟨x43, xs, rfl, hlen⟩ := hlen
  replace hlen := len_cons hlen
  obtain ⟨x44, xs, rfl, hlen⟩ := hlen
  replace hlen := len_cons hlen
  obtain ⟨x45, xs, rfl, hlen⟩ := hlen
  replace hlen := len_nil hlen
  subst hlen
  refine WC.frame (by simp only [setAll, List.set_cons_succ, List.set_cons_zero]; exact rfl) ?_
  try simp only [gt] at hI
  obtain ⟨sc, k, rfl, rfl, hk, hsc, hm, hnn, hg⟩ := hI
  have p1 : ∀ {w Fs2 X}, Goes W [] (X :: scF ps vm vd va sc :: Fs2) w → Calls Tryz.prog 98 #[.pointer (some ⟨ps, 0, none⟩)] w _ := fun h => sknown_spec (h.front 1)
  have p2 : ∀ {w Fs2 X}, Goes W [] (X :: scF ps vm vd va sc :: Fs2) w → Calls Tryz.prog 99 #[.pointer (some ⟨ps, 0, none⟩)] w _ := fun h => sopen_spec hL hok hsc (h.front 1)
  by_cases hkn : sc.tok = Tok.none
  rotate_left
  · rw [decide_eq_false hkn] at p1
    repeat' (first | refine zN ?_ | ((with_reducible refine WQ.nilG ?_); intro w hg) | (refine zB ?_; clear hg; intro b w hg; refine WO.fr ?_) | (refine zW ?_; clear hg; intro w hg; refine WO.fr ?_) | (refine op_pureB hg ?_; clear hg; intro w hg c hc; cases c <;> refine WO.fr ?_))
    exact ret1 rfl ⟨sc, 1, rfl, ⟨hsc, .inr (.inl rfl), fun _ => hkn, fun h => absurd rfl h, fun h => ⟨(hm h).1, fun h => absurd h (by decide)⟩⟩, hg.drop0⟩
  rw [decide_eq_true hkn] at p1
  rw [if_pos hkn] at hnn
  have hge : 2 * k + 2 ≤ n ∧ (sc.fr < sc.nx → 2 * k + 3 ≤ n) := by
    rw [hnn]
    refine ⟨by omega, fun h => ?_⟩
    rw [if_pos h]
    omega
  clear hnn
  cases hop : openB L sc <;> rw [hop] at p2 <;> by_cases hk0 : k = 0
  rotate_left 2
  · subst hk0
    repeat' (first | refine zN ?_ | ((with_reducible refine WQ.nilG ?_); intro w hg) | (refine zB ?_; clear hg; intro b w hg; refine WO.fr ?_) | (refine zW ?_; clear hg; intro w hg; refine WO.fr ?_) | (refine op_pureB hg ?_; clear hg; intro w hg c hc; cases c <;> refine WO.fr ?_))
    exact ret1 rfl ⟨sc, 0, rfl, ⟨hsc, .inl rfl, fun h => absurd h (by decide), fun _ => hkn, fun h => ⟨(hm h).1, fun _ => by have h9 := (hm h).2; have hb1 : 1 ≤ b0 := hb01; clear hge hE hk hb0; omega⟩⟩, hg.drop0⟩
  all_goals
    repeat' (first | refine zN ?_ | ((with_reducible refine WQ.nilG ?_); intro w hg) | (refine zB ?_; clear hg; intro b w hg; refine WO.fr ?_) | (refine zW ?_; clear hg; intro w hg; refine WO.fr ?_) | (refine op_pureB hg ?_; clear hg; intro w hg c hc; cases c <;> refine WO.fr ?_))
    clear p1 p2
    refine op_callV (fs := [.pointer (some ⟨ps, 0, none⟩)]) (cs := []) (f := 97) (smove_spec cl hW hWk hal hL hok hsc (hg.front 1).swap2) ?_
    rintro _ w2 ⟨s', how, one, rfl, hmv, hg2⟩
    clear hg
    have hg := (hg2.front 2)
    clear hg2
    refine ⟨_, rfl, ?_⟩
    refine WO.fr ?_
    have hok' := hmv.ok hsc
    have hmm := fun h => hmv.m (B := B) hE hsc (hm h).1
    have hf' := hok'.f
    have hfs := hsc.f
    cases hmv
    · rename_i h0 h1 h2 h3 h4 h5 h6
      obtain ⟨k', hk'⟩ : ∃ k', k = k' + 1 := by
        by_cases hz : k = 0
        · exfalso
          rw [hop] at h0
          first | exact absurd h0 (by decide) | exact hk0 hz
        · exact ⟨k - 1, by omega⟩
      clear hk0
      subst hk'
      repeat' (first | refine zN ?_ | ((with_reducible refine WQ.nilG ?_); intro w hg) | (refine zB ?_; clear hg; intro b w hg; refine WO.fr ?_) | (refine zW ?_; clear hg; intro w hg; refine WO.fr ?_) | (refine op_pureB hg ?_; clear hg; intro w hg c hc; cases c <;> refine WO.fr ?_))
      rw [show ((k' + 1 : Nat) : Int) - 1 = (k' : Nat) from by omega]
      with_reducible refine QX.norm ?_
      refine hK _ _ _ ?_ ?_
      · simp only [setAll, List.map_cons, List.map_nil, gt, List.set_cons_succ, List.set_cons_zero]
      all_goals try simp only [List.map_cons, List.map_nil, gt, intOf]
      · refine ⟨_, ?_, s', k', trivial, rfl, by omega, hok', fun h => ⟨(hmm h).1, by have h8 := (hmm h).2; have h9 := (hm h).2; simp only [if_true] at h8; omega⟩, rfl, hg⟩
        have h9 := hge.1
        rw [if_pos (by omega), if_pos (by rw [h5]; exact hkn)]
        omega
    · rename_i h
      subst h
      repeat' (first | refine zN ?_ | ((with_reducible refine WQ.nilG ?_); intro w hg) | (refine zB ?_; clear hg; intro b w hg; refine WO.fr ?_) | (refine zW ?_; clear hg; intro w hg; refine WO.fr ?_) | (refine op_pureB hg ?_; clear hg; intro w hg c hc; cases c <;> refine WO.fr ?_))
      exact ret1 rfl ⟨s', 2, rfl, ⟨hok', .inr (.inr rfl), fun h => absurd h (by decide), fun _ => hkn, fun h => ⟨(hm h).1, fun h => absurd h (by decide)⟩⟩, hg.drop0⟩
    · rename_i h0 h
      repeat' (first | refine zN ?_ | ((with_reducible refine WQ.nilG ?_); intro w hg) | (refine zB ?_; clear hg; intro b w hg; refine WO.fr ?_) | (refine zW ?_; clear hg; intro w hg; refine WO.fr ?_) | (refine op_pureB hg ?_; clear hg; intro w hg c hc; cases c <;> refine WO.fr ?_))
      with_reducible refine QX.norm ?_
      refine hK _ _ _ ?_ ?_
      · simp only [setAll, List.map_cons, List.map_nil, gt, List.set_cons_succ, List.set_cons_zero]
      all_goals try simp only [List.map_cons, List.map_nil, gt, intOf]
      · refine ⟨_, ?_, s', _, trivial, rfl, hk, hok', fun h => ⟨(hmm h).1, by have h8 := (hmm h).2; have h9 := (hm h).2; simp only [Bool.false_eq_true, if_false] at h8; omega⟩, rfl, hg⟩
        have h9 := hge.2 h0
        rcases h.2 with ⟨e1, e2, e3⟩ | ⟨e1, e2, e3, e4⟩
        · rw [if_neg e1]
          split <;> omega
        · rw [if_neg (show ¬ s'.fr < s'.nx by omega)]
          split <;> omega
    · rename_i h0 h1 h2 h3 h6
      repeat' (first | refine zN ?_ | ((with_reducible refine WQ.nilG ?_); intro w hg) | (refine zB ?_; clear hg; intro b w hg; refine WO.fr ?_) | (refine zW ?_; clear hg; intro w hg; refine WO.fr ?_) | (refine op_pureB hg ?_; clear hg; intro w hg c hc; cases c <;> refine WO.fr ?_))
      with_reducible refine QX.norm ?_
      refine hK _ _ _ ?_ ?_
      · simp only [setAll, List.map_cons, List.map_nil, gt, List.set_cons_succ, List.set_cons_zero]
      all_goals try simp only [List.map_cons, List.map_nil, gt, intOf]
      · refine ⟨_, ?_, s', _, trivial, rfl, hk, hok', fun h => ⟨(hmm h).1, by have h8 := (hmm h).2; have h9 := (hm h).2; simp only [Bool.false_eq_true, if_false] at h8; omega⟩, rfl, hg⟩
        rw [if_neg h1, if_neg (show ¬ s'.fr < s'.nx by omega)]
        have h9 := hge.1
        omega
end
end Go.Proofs.YtkdidefghbeabaaGreat
namespace Go.Proofs.YtkdidefghbeabaaGreat
open Go Go.RowKit
set_option maxRecDepth 10000
set_option linter.unusedSimpArgs false
set_option linter.unusedVariables false
section
variable {W : World} {ps : Nat} {vm vd va : Value} {L : PLex} {s : SC} {Fs : List Frag} {w : World}
theorem sToken_spec (ht : s.tok ≠ Tok.none) (hg : Goes W [] (scF ps vm vd va s :: Fs) w) : Calls Tryz.prog 64 #[.pointer (some ⟨ps, 0, none⟩)] w fun e w' => e = .returned (.tuple #[.agg s.tok.enc.toArray, .bool true]) ∧ Goes w [] [] w' := by
  have hg0 := hg
  have hcs : Cells w ⟨ps, 11, none⟩ [.int .i64 s.tok.kind, .int .i64 s.tok.rule, .int .i64 s.tok.fr, .int .i64 s.tok.at', .int .i64 s.tok.to, .int .i64 s.tok.mode] := heap_cells (hg.own _ (by simp [scF]; exact .inl rfl)) rfl
  clear hg
  have hg := Goes.refl w
  have r1 : ∀ {w' Fs}, Goes w [] Fs w' → Cells w' ⟨ps, 11, none⟩ [.int .i64 s.tok.kind, .int .i64 s.tok.rule, .int .i64 s.tok.fr, .int .i64 s.tok.at', .int .i64 s.tok.to, .int .i64 s.tok.mode] := fun h => h.cells0 hcs
  have p1 : ∀ {w' Fs2}, Goes w [] Fs2 w' → Calls Tryz.prog 98 #[.pointer (some ⟨ps, 0, none⟩)] w' _ := fun h => sknown_spec (hg0.call00 h.drop)
  rw [decide_eq_false ht] at p1
  simp only [Tok.enc]
  refine enter Tryz.func64 rfl (by simp only [Tryz.ntmps64, List.length_cons, List.length_nil, Nat.reduceAdd, Nat.reduceSub, List.replicate_succ, List.replicate_zero, List.cons_append, List.nil_append]; exact rfl) ?_
  repeat' (first | refine zN ?_ | (refine WC.quietG hg ?_; clear hg) | ((with_reducible refine WQ.nilG ?_); intro w hg) | (refine zB ?_; clear hg; intro b w hg; refine WO.fr ?_) | (refine zW ?_; clear hg; intro w hg; refine WO.fr ?_) | (refine op_pureB hg ?_; clear hg; intro w hg c hc; cases c <;> refine WO.fr ?_))
  exact ret (.cells rfl (by first | with_reducible assumption | ((with_reducible apply Cells.ldn); (first | with_reducible assumption | ((with_reducible apply hg.cells0); with_reducible assumption) | with_reducible exact r1 hg | with_reducible exact r2 hg | with_reducible exact r3 hg | with_reducible exact r4 hg | with_reducible exact r5 hg | with_reducible exact t1 hs | with_reducible exact t2 hs | with_reducible exact t3 hs | with_reducible exact t4 hs); exact rfl) | ((with_reducible apply CellsAt.ldn (hg := hg)); (repeat (first | ((with_reducible apply CellsAt.whole); exact rfl) | ((with_reducible apply CellsAt.here) <;> first | with_reducible assumption | (simp only [List.drop_zero, List.drop_succ_cons, List.take_succ_cons, List.take_zero]; exact rfl) | exact rfl) | with_reducible apply CellsAt.more | with_reducible apply CellsAt.next)); done)) (.tmp rfl .nil)) ⟨rfl, hg.drop⟩
set_option maxHeartbeats 4000000 in
theorem sNew_spec (a m : Int) (hL : LexAt W [vm, vd, va] L) (hok : LexOK L) (hg : Goes W [] Fs w) : Calls Tryz.prog 61 #[.agg #[vm, vd, va], .agg [.int .i64 a, .int .i64 m].toArray] w fun e w' => (∃ er, e = .returned (.tuple #[.pointer none, .int .i64 er]) ∧ Goes W [] Fs w') ∨
    (∃ ps s, e = .returned (.tuple #[.pointer (some ⟨ps, 0, none⟩), .int .i64 0]) ∧ SCOK L s ∧ s.tok = Tok.none ∧ s.nx = s.fr ∧ Goes W [] (scF ps vm vd va s :: Fs) w') := by
  have hL0 := hL
  have p1 : ∀ {w Fs}, Goes W [] Fs w → Calls Tryz.prog 23 #[.agg #[vm, vd, va]] w _ := fun h => tRight_spec _ [vm, vd, va] L (hL.goes h) hok
  obtain ⟨_, _, _, e, hM, hD, hA⟩ := hL
  obtain ⟨rfl, rfl, rfl⟩ : vm = _ ∧ vd = _ ∧ va = _ := by simpa using e
  obtain ⟨am, cm, rfl, hlm⟩ := hM.slice
  refine enter Tryz.func61 rfl (by simp only [Tryz.ntmps61, List.length_cons, List.length_nil, Nat.reduceAdd, Nat.reduceSub, List.replicate_succ, List.replicate_zero, List.cons_append, List.nil_append]; exact rfl) ?_
  by_cases h1 : m < 0
  · repeat' (first | refine zN ?_ | (refine WC.quietG hg ?_; clear hg) | ((with_reducible refine WQ.nilG ?_); intro w hg) | (refine zB ?_; clear hg; intro b w hg; refine WO.fr ?_) | (refine zW ?_; clear hg; intro w hg; refine WO.fr ?_) | (refine op_pureB hg ?_; clear hg; intro w hg c hc; cases c <;> refine WO.fr ?_))
    exact ret (.tmp rfl (.tmp rfl .nil)) (.inl ⟨11, rfl, hg.drop0.drop0⟩)
  by_cases h2 : (L.modes.length : Int) ≤ m
  · repeat' (first | refine zN ?_ | (refine WC.quietG hg ?_; clear hg) | ((with_reducible refine WQ.nilG ?_); intro w hg) | (refine zB ?_; clear hg; intro b w hg; refine WO.fr ?_) | (refine zW ?_; clear hg; intro w hg; refine WO.fr ?_) | (refine op_pureB hg ?_; clear hg; intro w hg c hc; cases c <;> refine WO.fr ?_))
    exact ret (.tmp rfl (.tmp rfl .nil)) (.inl ⟨11, rfl, hg.drop0.drop0⟩)
  by_cases h3 : a < 0
  · repeat' (first | refine zN ?_ | (refine WC.quietG hg ?_; clear hg) | ((with_reducible refine WQ.nilG ?_); intro w hg) | (refine zB ?_; clear hg; intro b w hg; refine WO.fr ?_) | (refine zW ?_; clear hg; intro w hg; refine WO.fr ?_) | (refine op_pureB hg ?_; clear hg; intro w hg c hc; cases c <;> refine WO.fr ?_))
    exact ret (.tmp rfl (.tmp rfl .nil)) (.inl ⟨2, rfl, hg.drop0.drop0⟩)
  repeat' (first | refine zN ?_ | ((with_reducible refine WQ.nilG ?_); intro w hg) | (refine zB ?_; clear hg; intro b w hg; refine WO.fr ?_) | (refine zW ?_; clear hg; intro w hg; refine WO.fr ?_) | (refine op_pureB hg ?_; clear hg; intro w hg c hc; cases c <;> refine WO.fr ?_))
  refine op_call (sbegin_spec (ps := b) (s := ⟨a, m, 0, 0, 0, 0, 0, 0, Tok.none, 0⟩) a m hL0 hok (by omega) hg) ?_
  rintro _ w2 ⟨⟨v, rfl⟩, hg2⟩
  clear hg
  refine ⟨_, rfl, ?_⟩
  refine WO.fr ?_
  have hg := hg2
  repeat' (first | refine zN ?_ | ((with_reducible refine WQ.nilG ?_); intro w hg) | (refine zB ?_; clear hg; intro b w hg; refine WO.fr ?_) | (refine zW ?_; clear hg; intro w hg; refine WO.fr ?_) | (refine op_pureB hg ?_; clear hg; intro w hg c hc; cases c <;> refine WO.fr ?_))
  exact ret (.tmp rfl (.tmp rfl .nil)) (.inr ⟨_, _, rfl, fresh_ok hok (by omega) (by omega), rfl, rfl, hg.tail1.tail1⟩)
end
end Go.Proofs.YtkdidefghbeabaaGreat
namespace Go.Proofs.YtkdidefghbeabaaGreat
open Go Go.RowKit
set_option maxRecDepth 10000
set_option linter.unusedSimpArgs false
set_option linter.unusedVariables false

def encSp (p : Int × Int) : List Value := [.int .i64 p.1, .int .i64 p.2]
def Sub (f g : Frag) : Prop := ∀ p ∈ f, p ∈ g
theorem Sub.refl (f : Frag) : Sub f f := fun _ h => h
theorem Sub.trans {f g h : Frag} (h1 : Sub f g) (h2 : Sub g h) : Sub f h := fun p hp => h2 p (h1 p hp)
theorem Rd.mono {f g : Frag} {a : Option Addr} {cap sz : Nat} {rows : List (List Value)} (h : Rd f a cap sz rows) (hs : Sub f g) : Rd g a cap sz rows := fun w hw => h w (fun p hp => hw p (hs p hp))
/-- A trail's spots, which a bag of rows bears that nobody turns. -/
def TrOK (fB : Frag) (dp : Int) (v : Value) : Prop := (1 ≤ dp ∧ dp ≤ 4096) ∧ ∃ a cap, ∃ sp : List (Int × Int), v = .slice a sp.length cap ∧ (sp.length : Int) ≤ dp ∧ Rd fB a cap 2 (sp.map encSp)
theorem TrOK.mono {f g : Frag} {dp : Int} {v : Value} (h : TrOK f dp v) (hs : Sub f g) : TrOK g dp v := by
  obtain ⟨h1, a, cap, sp, h2, h3, h4⟩ := h
  exact ⟨h1, a, cap, sp, h2, h3, h4.mono hs⟩
theorem TrOK.slice {f : Frag} {dp : Int} {v : Value} (h : TrOK f dp v) : ∃ a n cap, v = .slice a n cap := by
  obtain ⟨h1, a, cap, sp, h2, h3, h4⟩ := h
  exact ⟨a, _, cap, h2⟩

theorem trNew_spec (w0 : World) (d : Int) : Calls Tryz.prog 25 #[.int .i64 d] w0 fun e w' => e = .returned (.agg #[.int .i64 (min (max d 1) 4096), .slice none 0 0]) ∧ Goes w0 [] [] w' := by
  have hg := Goes.refl w0
  refine enter Tryz.func25 rfl (by simp only [Tryz.ntmps25, List.length_cons, List.length_nil, Nat.reduceAdd, Nat.reduceSub, List.replicate_succ, List.replicate_zero, List.cons_append, List.nil_append]; exact rfl) ?_
  repeat' (first | refine zN ?_ | (refine WC.quietG hg ?_; clear hg) | ((with_reducible refine WQ.nilG ?_); intro w hg) | (refine zB ?_; clear hg; intro b w hg; refine WO.fr ?_) | (refine zW ?_; clear hg; intro w hg; refine WO.fr ?_) | (refine op_pureB hg ?_; clear hg; intro w hg c hc; cases c <;> refine WO.fr ?_))
  exact ret (.cells rfl (by first | with_reducible assumption | ((with_reducible apply Cells.ldn); (first | with_reducible assumption | ((with_reducible apply hg.cells0); with_reducible assumption) | with_reducible exact r1 hg | with_reducible exact r2 hg | with_reducible exact r3 hg | with_reducible exact r4 hg | with_reducible exact r5 hg | with_reducible exact t1 hs | with_reducible exact t2 hs | with_reducible exact t3 hs | with_reducible exact t4 hs); exact rfl) | ((with_reducible apply CellsAt.ldn (hg := hg)); (repeat (first | ((with_reducible apply CellsAt.whole); exact rfl) | ((with_reducible apply CellsAt.here) <;> first | with_reducible assumption | (simp only [List.drop_zero, List.drop_succ_cons, List.take_succ_cons, List.take_zero]; exact rfl) | exact rfl) | with_reducible apply CellsAt.more | with_reducible apply CellsAt.next)); done)) .nil) ⟨rfl, hg.drop⟩
theorem TrOK.new (d : Int) : TrOK [] (min (max d 1) 4096) (.slice none 0 0) := ⟨by omega, none, 0, [], rfl, by simp; omega, Rd.nil⟩

section
variable {fB : Frag} {dp : Int} {v : Value} {w0 : World}
theorem trLow_spec (o : Int) (hT : TrOK fB dp v) (hO : ∀ p ∈ fB, w0.heap[p.1]? = some p.2) : Calls Tryz.prog 121 #[.agg #[.int .i64 dp, v], .int .i64 o] w0 fun e w' => (∃ n, e = .returned (.int .i64 n)) ∧ Goes w0 [] [] w' := by
  obtain ⟨hd, a, cap, sp, rfl, hlen, hR⟩ := hT
  have hS := hR w0 hO
  have hlim := hS.lim
  simp only [List.length_map] at hlim
  have hg := Goes.refl w0
  refine enter Tryz.func121 rfl (by simp only [Tryz.ntmps121, List.length_cons, List.length_nil, Nat.reduceAdd, Nat.reduceSub, List.replicate_succ, List.replicate_zero, List.cons_append, List.nil_append]; exact rfl) ?_
  repeat' (first | refine zN ?_ | (refine WC.quietG hg ?_; clear hg) | ((with_reducible refine WQ.nilG ?_); intro w hg) | (refine zB ?_; clear hg; intro b w hg; refine WO.fr ?_) | (refine zW ?_; clear hg; intro w hg; refine WO.fr ?_) | (refine op_pureB hg ?_; clear hg; intro w hg c hc; cases c <;> refine WO.fr ?_))
  refine WC.loopS [1, 6, 10, 11, 12, 13, 14, 15, 16, 17, 18] (fun xs d w => ∃ (i : Nat) (o : Int), d = [] ∧ (gt xs 2) = .int .i64 i ∧ (gt xs 0) = .int .i64 o ∧ i ≤ sp.length ∧ Goes w0 [] [] w) (fun xs _ _ => sp.length - (intOf (gt xs 2)).toNat) ?_ ?_
  · exact ⟨0, o, rfl, rfl, rfl, Nat.zero_le _, hg.drop⟩
  clear hg
  intro xs d w hlen hI K hK
  replace hlen := len_cons hlen
  obtain ⟨x1, xs, rfl, hlen⟩ := hlen
  replace hlen := len_cons hlen
  obtain ⟨x6, xs, rfl, hlen⟩ := hlen
  replace hlen := len_cons hlen
  obtain ⟨x10, xs, rfl, hlen⟩ := hlen
  replace hlen := len_cons hlen
  obtain ⟨x11, xs, rfl, hlen⟩ := hlen
  replace hlen := len_cons hlen
  obtain ⟨x12, xs, rfl, hlen⟩ := hlen
  replace hlen := len_cons hlen
  obtain ⟨x13, xs, rfl, hlen⟩ := hlen
  replace hlen := len_cons hlen
  obtain ⟨x14, xs, rfl, hlen⟩ := hlen
  replace hlen := len_cons hlen
  obtain ⟨x15, xs, rfl, hlen⟩ := hlen
  replace hlen := len_cons hlen
  obtain ⟨x16, xs, rfl, hlen⟩ := hlen
  replace hlen := len_cons hlen
  obtain ⟨x17, xs, rfl, hlen⟩ := hlen
  replace hlen := len_cons hlen
  obtain ⟨x18, xs, rfl, hlen⟩ := hlen
  replace hlen := len_nil hlen
  subst hlen
  refine WC.frame (by simp only [setAll, List.set_cons_succ, List.set_cons_zero]; exact rfl) ?_
  try simp only [gt] at hI
  obtain ⟨i, o, rfl, rfl, rfl, hi, hg⟩ := hI
  by_cases hlt : i < sp.length
  rotate_left
  · repeat' (first | refine zN ?_ | (refine WC.quietG hg ?_; clear hg) | ((with_reducible refine WQ.nilG ?_); intro w hg) | (refine zB ?_; clear hg; intro b w hg; refine WO.fr ?_) | (refine zW ?_; clear hg; intro w hg; refine WO.fr ?_) | (refine op_pureB hg ?_; clear hg; intro w hg c hc; cases c <;> refine WO.fr ?_))
    exact ret1 rfl ⟨⟨o, rfl⟩, hg.drop⟩
  obtain ⟨b, k, rfl, _, hrow⟩ := hS.at (i := i) (r := encSp sp[i]) (by simp [hlt])
  generalize sp[i] = q at hrow
  have r1 : ∀ {w Fs}, Goes w0 [] Fs w → Cells w ⟨b, k + i * 2, none⟩ [.int .i64 q.1, .int .i64 q.2] := fun h => h.cellsOld hrow (by simp)
  clear hrow
  repeat' (first | refine zN ?_ | (refine WC.quietG hg ?_; clear hg) | ((with_reducible refine WQ.nilG ?_); intro w hg) | (refine zB ?_; clear hg; intro b w hg; refine WO.fr ?_) | (refine zW ?_; clear hg; intro w hg; refine WO.fr ?_) | (refine op_pureB hg ?_; clear hg; intro w hg c hc; cases c <;> refine WO.fr ?_))
  with_reducible refine QX.norm ?_
  refine hK _ _ _ ?_ ?_ ?_
  · simp only [setAll, List.map_cons, List.map_nil, gt, List.set_cons_succ, List.set_cons_zero]
  all_goals try simp only [List.map_cons, List.map_nil, gt, intOf]
  · exact ⟨i + 1, _, trivial, rfl, rfl, by omega, hg.drop⟩
  · omega

theorem own_spots {a' : Option Addr} {n cap' : Nat} {sp : List (Int × Int)} {f : Frag} (h : Own 69 2 a' n cap' (sp.map encSp).flatten f) (hn : sp.length = n) (hl : n ≤ 100000) : Rd f a' cap' 2 (sp.map encSp) :=
  h.rd (fun r hr => by obtain ⟨x, _, rfl⟩ := List.mem_map.1 hr; rfl) (by simpa using hn) (by omega)
theorem Rd.cut {f : Frag} {a : Option Addr} {cap sz : Nat} {rows : List (List Value)} (h : Rd f a cap sz rows) : Rd f a rows.length sz rows := fun w hw => ⟨Nat.le_refl _, (h w hw).lim, (h w hw).nil, (h w hw).row⟩
theorem Rd.cutS {f : Frag} {a : Option Addr} {cap : Nat} {sp : List (Int × Int)} (h : Rd f a cap 2 (sp.map encSp)) : Rd f a sp.length 2 (sp.map encSp) := by simpa using h.cut
set_option maxHeartbeats 4000000 in
theorem trPush_spec {W w : World} {Fs : List Frag} (x y : Int) (hT : TrOK fB dp v) (hg : Goes W [] (fB :: Fs) w) : Calls Tryz.prog 87 #[.agg #[.int .i64 dp, v], .agg #[.int .i64 x, .int .i64 y]] w fun e w' => ∃ v' fB', e = .returned (.agg #[.int .i64 dp, v']) ∧ Sub fB fB' ∧ TrOK fB' dp v' ∧ Goes W [] (fB' :: Fs) w' := by
  obtain ⟨hd, a, cap, sp, rfl, hlen, hR⟩ := hT
  have hcap := (hR.sl hg).cap
  simp only [List.length_map] at hcap
  have hR1 := hR.cutS
  refine enter Tryz.func87 rfl (by simp only [Tryz.ntmps87, List.length_cons, List.length_nil, Nat.reduceAdd, Nat.reduceSub, List.replicate_succ, List.replicate_zero, List.cons_append, List.nil_append]; exact rfl) ?_
  by_cases hfull : dp ≤ sp.length
  · have hR2 := hR1.part 1 (sp.length - 1) (by simp; omega)
    obtain ⟨kp, hkp⟩ : ∃ kp, kp = sp.drop 1 := ⟨_, rfl⟩
    have hkl : sp.length - 1 = kp.length := by rw [hkp]; simp
    rw [← List.map_drop, ← List.map_take, List.take_of_length_le (by simp), ← hkp, hkl] at hR2
    have hkd : (kp.length : Int) + 1 ≤ dp := by omega
    repeat' (first | refine zN ?_ | ((with_reducible refine WQ.nilG ?_); intro w hg) | (refine zB ?_; clear hg; intro b w hg; refine WO.fr ?_) | (refine zW ?_; clear hg; intro w hg; refine WO.fr ?_) | (refine op_pureB hg ?_; clear hg; intro w hg c hc; cases c <;> refine WO.fr ?_))
    rename_i bt _ ba _
    rw [hkl]
    generalize moved a 1 2 sp.length = ka at hR2
    have s1 : ∀ {w : World}, (w.heap[bt]? = some (.cells [.int .i64 dp, .slice a sp.length cap].toArray 72 (0, 0)) ∧ w.heap[ba]? = some (.cells [.int .i64 x, .int .i64 y].toArray 69 (0, 0))) → w.cell? ⟨bt, 0, none⟩ = some (.int .i64 dp) := fun h => heap_cell h.1 rfl
    have t1 : ∀ {w : World}, (w.heap[bt]? = some (.cells [.int .i64 dp, .slice a sp.length cap].toArray 72 (0, 0)) ∧ w.heap[ba]? = some (.cells [.int .i64 x, .int .i64 y].toArray 69 (0, 0))) → Cells w ⟨ba, 0, none⟩ [.int .i64 x, .int .i64 y] := fun h => heap_cells h.2 rfl
    refine WC.drawn (fun w => w.heap[bt]? = some (.cells [.int .i64 dp, .slice a sp.length cap].toArray 72 (0, 0)) ∧ w.heap[ba]? = some (.cells [.int .i64 x, .int .i64 y].toArray 69 (0, 0))) [7] hg ?_
    clear hg
    intro w hg
    have hS : (fun w => w.heap[bt]? = some (.cells [.int .i64 dp, .slice a sp.length cap].toArray 72 (0, 0)) ∧ w.heap[ba]? = some (.cells [.int .i64 x, .int .i64 y].toArray 69 (0, 0))) w := ⟨hg.own (bt, .cells [.int .i64 dp, .slice a sp.length cap].toArray 72 (0, 0)) (by simp), hg.own (ba, .cells [.int .i64 x, .int .i64 y].toArray 69 (0, 0)) (by simp)⟩
    refine WA.passM 0 hS ?_
    refine WA.passM 2 hS ?_
    refine WA.passM 1 hS ?_
    refine WA.passM 3 hS ?_
    refine WA.only 4 ?_
    refine op_buildRows (rows := [encSp (x, y)]) (by first | (simp only [ev, gt, put, List.set_cons_succ, List.set_cons_zero, Nat.zero_add, Nat.add_zero, Nat.mul_one, Nat.reduceAdd, Nat.reduceMul, Int.toNat_natCast, Int.reduceToNat, List.map_cons, List.map_nil, List.cons_append, List.nil_append]; exact rfl) | simp only [ev, gt, put, List.set_cons_succ, List.set_cons_zero, Nat.zero_add, Nat.add_zero, Nat.mul_one, Nat.reduceAdd, Nat.reduceMul, Int.toNat_natCast, Int.reduceToNat, List.map_cons, List.map_nil, List.cons_append, List.nil_append]) rfl (by simp [encSp]) rfl rfl (by decide) hg ?_
    clear hg hS
    intro bs w hg
    refine WO.fr ?_
    have hS : (fun w => w.heap[bt]? = some (.cells [.int .i64 dp, .slice a sp.length cap].toArray 72 (0, 0)) ∧ w.heap[ba]? = some (.cells [.int .i64 x, .int .i64 y].toArray 69 (0, 0))) w := ⟨hg.own (bt, .cells [.int .i64 dp, .slice a sp.length cap].toArray 72 (0, 0)) (by simp), hg.own (ba, .cells [.int .i64 x, .int .i64 y].toArray 69 (0, 0)) (by simp)⟩
    refine WO.nilA hS ?_
    refine WA.only 5 ?_
    refine op_appendNew (n := kp.length) hg (hR2.sl (hg.front 4)) (fun r hr => by obtain ⟨x, _, rfl⟩ := List.mem_map.1 hr; rfl) (by simp) (by omega) (hg.src1 Und.out rfl rfl) ?_
    clear hg hS
    intro a' cap' f' w hO hg
    refine WO.fr ?_
    have hS : (fun w => w.heap[bt]? = some (.cells [.int .i64 dp, .slice a sp.length cap].toArray 72 (0, 0)) ∧ w.heap[ba]? = some (.cells [.int .i64 x, .int .i64 y].toArray 69 (0, 0))) w := ⟨hg.own (bt, .cells [.int .i64 dp, .slice a sp.length cap].toArray 72 (0, 0)) (by simp), hg.own (ba, .cells [.int .i64 x, .int .i64 y].toArray 69 (0, 0)) (by simp)⟩
    refine WO.nilA hS ?_
    refine WA.passM 6 hS ?_
    refine WA.only 7 ?_
    refine op_stA hg ?_
    clear hg hS
    intro w hg
    refine WO.fr ?_
    refine WO.nilL ?_
    refine WA.nil ?_
    repeat' (first | refine zN ?_ | ((with_reducible refine WQ.nilG ?_); intro w hg) | (refine zB ?_; clear hg; intro b w hg; refine WO.fr ?_) | (refine zW ?_; clear hg; intro w hg; refine WO.fr ?_) | (refine op_pureB hg ?_; clear hg; intro w hg c hc; cases c <;> refine WO.fr ?_))
    have hO2 := own_spots (sp := kp ++ [(x, y)]) (by simpa [encSp] using hO) (by simp) (by omega)
    refine ret (.cells rfl (by first | with_reducible assumption | ((with_reducible apply Cells.ldn); (first | with_reducible assumption | ((with_reducible apply hg.cells0); with_reducible assumption) | with_reducible exact r1 hg | with_reducible exact r2 hg | with_reducible exact r3 hg | with_reducible exact r4 hg | with_reducible exact r5 hg | with_reducible exact t1 hs | with_reducible exact t2 hs | with_reducible exact t3 hs | with_reducible exact t4 hs); exact rfl) | ((with_reducible apply CellsAt.ldn (hg := hg)); (repeat (first | ((with_reducible apply CellsAt.whole); exact rfl) | ((with_reducible apply CellsAt.here) <;> first | with_reducible assumption | (simp only [List.drop_zero, List.drop_succ_cons, List.take_succ_cons, List.take_zero]; exact rfl) | exact rfl) | with_reducible apply CellsAt.more | with_reducible apply CellsAt.next)); done)) .nil) ⟨.slice a' (kp.length + 1) cap', f' ++ fB, rfl, fun p hp => List.mem_append_right _ hp, ⟨hd, a', cap', kp ++ [(x, y)], by simp, by simp; omega, hO2.mono (fun p hp => List.mem_append_left _ hp)⟩, ?_⟩
    exact (((((((hg.front 4).front 4).front 4).front 4).front 5).front 5)).join.tail1.tail1.tail1.tail1
  · obtain ⟨kp, hkp⟩ : ∃ kp, kp = sp := ⟨_, rfl⟩
    have hR2 := hR1
    have hkd : (sp.length : Int) + 1 ≤ dp := by omega
    repeat' (first | refine zN ?_ | ((with_reducible refine WQ.nilG ?_); intro w hg) | (refine zB ?_; clear hg; intro b w hg; refine WO.fr ?_) | (refine zW ?_; clear hg; intro w hg; refine WO.fr ?_) | (refine op_pureB hg ?_; clear hg; intro w hg c hc; cases c <;> refine WO.fr ?_))
    rename_i bt _ ba _
    rw [← hkp] at hR2 hkd ⊢
    have s1 : ∀ {w : World}, (w.heap[bt]? = some (.cells [.int .i64 dp, .slice a sp.length cap].toArray 72 (0, 0)) ∧ w.heap[ba]? = some (.cells [.int .i64 x, .int .i64 y].toArray 69 (0, 0))) → w.cell? ⟨bt, 0, none⟩ = some (.int .i64 dp) := fun h => heap_cell h.1 rfl
    have t1 : ∀ {w : World}, (w.heap[bt]? = some (.cells [.int .i64 dp, .slice a sp.length cap].toArray 72 (0, 0)) ∧ w.heap[ba]? = some (.cells [.int .i64 x, .int .i64 y].toArray 69 (0, 0))) → Cells w ⟨ba, 0, none⟩ [.int .i64 x, .int .i64 y] := fun h => heap_cells h.2 rfl
    refine WC.drawn (fun w => w.heap[bt]? = some (.cells [.int .i64 dp, .slice a sp.length cap].toArray 72 (0, 0)) ∧ w.heap[ba]? = some (.cells [.int .i64 x, .int .i64 y].toArray 69 (0, 0))) [7] hg ?_
    clear hg
    intro w hg
    have hS : (fun w => w.heap[bt]? = some (.cells [.int .i64 dp, .slice a sp.length cap].toArray 72 (0, 0)) ∧ w.heap[ba]? = some (.cells [.int .i64 x, .int .i64 y].toArray 69 (0, 0))) w := ⟨hg.own (bt, .cells [.int .i64 dp, .slice a sp.length cap].toArray 72 (0, 0)) (by simp), hg.own (ba, .cells [.int .i64 x, .int .i64 y].toArray 69 (0, 0)) (by simp)⟩
    refine WA.passM 0 hS ?_
    refine WA.passM 2 hS ?_
    refine WA.passM 1 hS ?_
    refine WA.passM 3 hS ?_
    refine WA.only 4 ?_
    refine op_buildRows (rows := [encSp (x, y)]) (by first | (simp only [ev, gt, put, List.set_cons_succ, List.set_cons_zero, Nat.zero_add, Nat.add_zero, Nat.mul_one, Nat.reduceAdd, Nat.reduceMul, Int.toNat_natCast, Int.reduceToNat, List.map_cons, List.map_nil, List.cons_append, List.nil_append]; exact rfl) | simp only [ev, gt, put, List.set_cons_succ, List.set_cons_zero, Nat.zero_add, Nat.add_zero, Nat.mul_one, Nat.reduceAdd, Nat.reduceMul, Int.toNat_natCast, Int.reduceToNat, List.map_cons, List.map_nil, List.cons_append, List.nil_append]) rfl (by simp [encSp]) rfl rfl (by decide) hg ?_
    clear hg hS
    intro bs w hg
    refine WO.fr ?_
    have hS : (fun w => w.heap[bt]? = some (.cells [.int .i64 dp, .slice a sp.length cap].toArray 72 (0, 0)) ∧ w.heap[ba]? = some (.cells [.int .i64 x, .int .i64 y].toArray 69 (0, 0))) w := ⟨hg.own (bt, .cells [.int .i64 dp, .slice a sp.length cap].toArray 72 (0, 0)) (by simp), hg.own (ba, .cells [.int .i64 x, .int .i64 y].toArray 69 (0, 0)) (by simp)⟩
    refine WO.nilA hS ?_
    refine WA.only 5 ?_
    refine op_appendNew (n := kp.length) hg (hR2.sl (hg.front 4)) (fun r hr => by obtain ⟨x, _, rfl⟩ := List.mem_map.1 hr; rfl) (by simp) (by omega) (hg.src1 Und.out rfl rfl) ?_
    clear hg hS
    intro a' cap' f' w hO hg
    refine WO.fr ?_
    have hS : (fun w => w.heap[bt]? = some (.cells [.int .i64 dp, .slice a sp.length cap].toArray 72 (0, 0)) ∧ w.heap[ba]? = some (.cells [.int .i64 x, .int .i64 y].toArray 69 (0, 0))) w := ⟨hg.own (bt, .cells [.int .i64 dp, .slice a sp.length cap].toArray 72 (0, 0)) (by simp), hg.own (ba, .cells [.int .i64 x, .int .i64 y].toArray 69 (0, 0)) (by simp)⟩
    refine WO.nilA hS ?_
    refine WA.passM 6 hS ?_
    refine WA.only 7 ?_
    refine op_stA hg ?_
    clear hg hS
    intro w hg
    refine WO.fr ?_
    refine WO.nilL ?_
    refine WA.nil ?_
    repeat' (first | refine zN ?_ | ((with_reducible refine WQ.nilG ?_); intro w hg) | (refine zB ?_; clear hg; intro b w hg; refine WO.fr ?_) | (refine zW ?_; clear hg; intro w hg; refine WO.fr ?_) | (refine op_pureB hg ?_; clear hg; intro w hg c hc; cases c <;> refine WO.fr ?_))
    have hO2 := own_spots (sp := kp ++ [(x, y)]) (by simpa [encSp] using hO) (by simp) (by omega)
    refine ret (.cells rfl (by first | with_reducible assumption | ((with_reducible apply Cells.ldn); (first | with_reducible assumption | ((with_reducible apply hg.cells0); with_reducible assumption) | with_reducible exact r1 hg | with_reducible exact r2 hg | with_reducible exact r3 hg | with_reducible exact r4 hg | with_reducible exact r5 hg | with_reducible exact t1 hs | with_reducible exact t2 hs | with_reducible exact t3 hs | with_reducible exact t4 hs); exact rfl) | ((with_reducible apply CellsAt.ldn (hg := hg)); (repeat (first | ((with_reducible apply CellsAt.whole); exact rfl) | ((with_reducible apply CellsAt.here) <;> first | with_reducible assumption | (simp only [List.drop_zero, List.drop_succ_cons, List.take_succ_cons, List.take_zero]; exact rfl) | exact rfl) | with_reducible apply CellsAt.more | with_reducible apply CellsAt.next)); done)) .nil) ⟨.slice a' (kp.length + 1) cap', f' ++ fB, rfl, fun p hp => List.mem_append_right _ hp, ⟨hd, a', cap', kp ++ [(x, y)], by simp, by simp; omega, hO2.mono (fun p hp => List.mem_append_left _ hp)⟩, ?_⟩
    exact (((((((hg.front 4).front 4).front 4).front 4).front 5).front 5)).join.tail1.tail1.tail1.tail1

theorem trPop_spec (hT : TrOK fB dp v) (hO : ∀ p ∈ fB, w0.heap[p.1]? = some p.2) : Calls Tryz.prog 88 #[.agg #[.int .i64 dp, v]] w0 fun e w' => (∃ v' x y b, e = .returned (.tuple #[.agg #[.int .i64 dp, v'], .agg #[.int .i64 x, .int .i64 y], .bool b]) ∧ TrOK fB dp v') ∧ Goes w0 [] [] w' := by
  have hT0 := hT
  obtain ⟨hd, a, cap, sp, rfl, hlen, hR⟩ := hT
  have hS := hR w0 hO
  have hcap := hS.cap
  simp only [List.length_map] at hcap
  have hg := Goes.refl w0
  refine enter Tryz.func88 rfl (by simp only [Tryz.ntmps88, List.length_cons, List.length_nil, Nat.reduceAdd, Nat.reduceSub, List.replicate_succ, List.replicate_zero, List.cons_append, List.nil_append]; exact rfl) ?_
  by_cases h0 : sp.length = 0
  · repeat' (first | refine zN ?_ | ((with_reducible refine WQ.nilG ?_); intro w hg) | (refine zB ?_; clear hg; intro b w hg; refine WO.fr ?_) | (refine zW ?_; clear hg; intro w hg; refine WO.fr ?_) | (refine op_pureB hg ?_; clear hg; intro w hg c hc; cases c <;> refine WO.fr ?_))
    exact ret (.cells rfl (by first | with_reducible assumption | ((with_reducible apply Cells.ldn); (first | with_reducible assumption | ((with_reducible apply hg.cells0); with_reducible assumption) | with_reducible exact r1 hg | with_reducible exact r2 hg | with_reducible exact r3 hg | with_reducible exact r4 hg | with_reducible exact r5 hg | with_reducible exact t1 hs | with_reducible exact t2 hs | with_reducible exact t3 hs | with_reducible exact t4 hs); exact rfl) | ((with_reducible apply CellsAt.ldn (hg := hg)); (repeat (first | ((with_reducible apply CellsAt.whole); exact rfl) | ((with_reducible apply CellsAt.here) <;> first | with_reducible assumption | (simp only [List.drop_zero, List.drop_succ_cons, List.take_succ_cons, List.take_zero]; exact rfl) | exact rfl) | with_reducible apply CellsAt.more | with_reducible apply CellsAt.next)); done)) (.cells rfl (by first | with_reducible assumption | ((with_reducible apply Cells.ldn); (first | with_reducible assumption | ((with_reducible apply hg.cells0); with_reducible assumption) | with_reducible exact r1 hg | with_reducible exact r2 hg | with_reducible exact r3 hg | with_reducible exact r4 hg | with_reducible exact r5 hg | with_reducible exact t1 hs | with_reducible exact t2 hs | with_reducible exact t3 hs | with_reducible exact t4 hs); exact rfl) | ((with_reducible apply CellsAt.ldn (hg := hg)); (repeat (first | ((with_reducible apply CellsAt.whole); exact rfl) | ((with_reducible apply CellsAt.here) <;> first | with_reducible assumption | (simp only [List.drop_zero, List.drop_succ_cons, List.take_succ_cons, List.take_zero]; exact rfl) | exact rfl) | with_reducible apply CellsAt.more | with_reducible apply CellsAt.next)); done)) (.tmp rfl .nil))) ⟨⟨_, 0, 0, false, rfl, hT0⟩, hg.drop⟩
  obtain ⟨k, hk⟩ : ∃ k, sp.length = k + 1 := ⟨sp.length - 1, by omega⟩
  obtain ⟨rb, j, rfl, _, hrow⟩ := hS.at (i := k) (r := encSp (sp.getD k (0, 0))) (by simp [List.getD, hk])
  generalize sp.getD k (0, 0) = q at hrow
  have hpre : Rd fB (some ⟨rb, j, none⟩) k 2 ((sp.take k).map encSp) := by
    have h1 : Rd fB (some ⟨rb, j, none⟩) cap 2 ((sp.take k).map encSp) := fun w hw => by rw [List.map_take]; exact (hR w hw).pre k
    have h2 := h1.cutS
    rwa [show (sp.take k).length = k from by simp; omega] at h2
  repeat' (first | refine zN ?_ | ((with_reducible refine WQ.nilG ?_); intro w hg) | (refine zB ?_; clear hg; intro b w hg; refine WO.fr ?_) | (refine zW ?_; clear hg; intro w hg; refine WO.fr ?_) | (refine op_pureB hg ?_; clear hg; intro w hg c hc; cases c <;> refine WO.fr ?_))
  rw [show ((sp.length : Nat) : Int) - 1 = (k : Nat) from by omega]
  rename_i bt _ b2 _
  have s1 : ∀ {w : World}, (w.heap[bt]? = some (.cells [.int .i64 dp, .slice (some ⟨rb, j, none⟩) sp.length cap].toArray 72 (0, 0)) ∧ Goes w0 [] [] w) → w.cell? ⟨bt, 0, none⟩ = some (.int .i64 dp) := fun h => heap_cell h.1 rfl
  have s2 : ∀ {w : World}, (w.heap[bt]? = some (.cells [.int .i64 dp, .slice (some ⟨rb, j, none⟩) sp.length cap].toArray 72 (0, 0)) ∧ Goes w0 [] [] w) → w.cell? ⟨bt, 1, none⟩ = some (.slice (some ⟨rb, j, none⟩) sp.length cap) := fun h => heap_cell h.1 rfl
  have t1 : ∀ {w : World}, (w.heap[bt]? = some (.cells [.int .i64 dp, .slice (some ⟨rb, j, none⟩) sp.length cap].toArray 72 (0, 0)) ∧ Goes w0 [] [] w) → Cells w ⟨rb, j + k * 2, none⟩ [.int .i64 q.1, .int .i64 q.2] := fun h => h.2.cellsOld hrow (by simp)
  refine WC.drawn (fun w => w.heap[bt]? = some (.cells [.int .i64 dp, .slice (some ⟨rb, j, none⟩) sp.length cap].toArray 72 (0, 0)) ∧ Goes w0 [] [] w) [] hg ?_
  clear hg
  intro w hg
  have hS : (fun w => w.heap[bt]? = some (.cells [.int .i64 dp, .slice (some ⟨rb, j, none⟩) sp.length cap].toArray 72 (0, 0)) ∧ Goes w0 [] [] w) w := ⟨hg.own (bt, .cells [.int .i64 dp, .slice (some ⟨rb, j, none⟩) sp.length cap].toArray 72 (0, 0)) (by simp), hg.drop⟩
  refine WA.passM 0 hS ?_
  refine WA.passM 2 hS ?_
  refine WA.passM 4 hS ?_
  refine WA.passM 5 hS ?_
  refine WA.passM 8 hS ?_
  refine WA.passM 10 hS ?_
  refine WA.passM 1 hS ?_
  refine WA.passM 3 hS ?_
  refine WA.passM 6 hS ?_
  refine WA.passM 7 hS ?_
  refine WA.passM 9 hS ?_
  refine WA.passM 11 hS ?_
  refine WA.passM 12 hS ?_
  refine WA.only 13 ?_
  refine op_stA hg ?_
  clear hg hS
  intro w hg
  refine WO.fr ?_
  have hS : (fun w => w.heap[bt]? = some (.cells [.int .i64 dp, .slice (some ⟨rb, j, none⟩) sp.length cap].toArray 72 (0, 0)) ∧ Goes w0 [] [] w) w := ⟨hg.own (bt, .cells [.int .i64 dp, .slice (some ⟨rb, j, none⟩) sp.length cap].toArray 72 (0, 0)) (by simp), hg.drop⟩
  refine WO.nilA hS ?_
  refine WA.only 14 ?_
  refine op_stA hg ?_
  clear hg hS
  intro w hg
  refine WO.fr ?_
  have hS : (fun w => w.heap[bt]? = some (.cells [.int .i64 dp, .slice (some ⟨rb, j, none⟩) sp.length cap].toArray 72 (0, 0)) ∧ Goes w0 [] [] w) w := ⟨hg.own (bt, .cells [.int .i64 dp, .slice (some ⟨rb, j, none⟩) sp.length cap].toArray 72 (0, 0)) (by simp), hg.drop⟩
  refine WO.nilA hS ?_
  refine WA.passM 15 hS ?_
  refine WA.nil ?_
  repeat' (first | refine zN ?_ | ((with_reducible refine WQ.nilG ?_); intro w hg) | (refine zB ?_; clear hg; intro b w hg; refine WO.fr ?_) | (refine zW ?_; clear hg; intro w hg; refine WO.fr ?_) | (refine op_pureB hg ?_; clear hg; intro w hg c hc; cases c <;> refine WO.fr ?_))
  exact ret (.cells rfl (by first | with_reducible assumption | ((with_reducible apply Cells.ldn); (first | with_reducible assumption | ((with_reducible apply hg.cells0); with_reducible assumption) | with_reducible exact r1 hg | with_reducible exact r2 hg | with_reducible exact r3 hg | with_reducible exact r4 hg | with_reducible exact r5 hg | with_reducible exact t1 hs | with_reducible exact t2 hs | with_reducible exact t3 hs | with_reducible exact t4 hs); exact rfl) | ((with_reducible apply CellsAt.ldn (hg := hg)); (repeat (first | ((with_reducible apply CellsAt.whole); exact rfl) | ((with_reducible apply CellsAt.here) <;> first | with_reducible assumption | (simp only [List.drop_zero, List.drop_succ_cons, List.take_succ_cons, List.take_zero]; exact rfl) | exact rfl) | with_reducible apply CellsAt.more | with_reducible apply CellsAt.next)); done)) (.cells rfl (by first | with_reducible assumption | ((with_reducible apply Cells.ldn); (first | with_reducible assumption | ((with_reducible apply hg.cells0); with_reducible assumption) | with_reducible exact r1 hg | with_reducible exact r2 hg | with_reducible exact r3 hg | with_reducible exact r4 hg | with_reducible exact r5 hg | with_reducible exact t1 hs | with_reducible exact t2 hs | with_reducible exact t3 hs | with_reducible exact t4 hs); exact rfl) | ((with_reducible apply CellsAt.ldn (hg := hg)); (repeat (first | ((with_reducible apply CellsAt.whole); exact rfl) | ((with_reducible apply CellsAt.here) <;> first | with_reducible assumption | (simp only [List.drop_zero, List.drop_succ_cons, List.take_succ_cons, List.take_zero]; exact rfl) | exact rfl) | with_reducible apply CellsAt.more | with_reducible apply CellsAt.next)); done)) (.tmp rfl .nil))) ⟨⟨_, q.1, q.2, true, rfl, hd, some ⟨rb, j, none⟩, k, sp.take k, by simp [hk], by simp; omega, hpre⟩, hg.drop⟩
end
end Go.Proofs.YtkdidefghbeabaaGreat
