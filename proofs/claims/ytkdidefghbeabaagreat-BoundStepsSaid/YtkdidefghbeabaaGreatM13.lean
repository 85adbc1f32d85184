/- The window: Keep, Known, At, Text, Copy. The window: Known, At, Text, Copy. The scanner in plain Lean; as it lies; New, begin, open, known, end, on. -/
import Derived.Test.YtkdidefghbeabaaGreatM12
import Derived.Test.YtkdidefghbeabaaGreatM08
namespace Go.Proofs.YtkdidefghbeabaaGreat
open Go Go.RowKit
set_option maxRecDepth 10000
set_option linter.unusedSimpArgs false
set_option linter.unusedVariables false

theorem Goes.head {w0 w : World} {M : List Nat} {f : Frag} {Fs : List Frag} (h : Goes w0 M (f :: Fs) w) : Goes w0 M [f] w := h.sub (by simp)
section
variable {pw : Nat} {p : Prm} {s : WS} {f : Frag} {w0 : World}
set_option maxHeartbeats 8000000 in
theorem wKeep_spec (a md : Int) (t : Tok) (hF : WinF pw p s f) (hO : Owns w0 f) (hW : WOK p.bytes s) (hal : s.all.length ≤ 100000) : Calls Tryz.prog 65 #[.pointer (some ⟨pw, 0, none⟩), .agg [.int .i64 a, .int .i64 md].toArray, .agg t.enc.toArray] w0 fun e w' => ∃ f', e = .returned (.bool (s.keepB p.bytes ⟨a, md, t⟩)) ∧ WinF pw p (s.keep p.bytes ⟨a, md, t⟩) f' ∧ Goes w0 (keys f) [f'] w' := by
  have hF0 := hF
  have hs1 := hW.h1; have hs2 := hW.h2; have hs3 := hW.h3; have hs4 := hW.h4; have hb1 := hW.b1; have hb2 := hW.b2
  obtain ⟨pr, pc, n, bl, m, h, fr, fc, rfl, hn, h1, h2, h3, h4⟩ := hF
  have hg := hO.goes
  have p1 : ∀ {w x y}, Goes w0 (keys ([(pw, .cells [.pointer (some ⟨pr, 0, none⟩), .pointer (some ⟨pc, 0, none⟩), .int .i64 p.bytes, .int .i64 p.trail, .int .i64 p.marks, .int .i64 p.ahead, .int .i64 p.tickets, .int .i64 p.retries, .int .i64 p.step, .int .i64 (s.low : Nat)].toArray 115 (0, 0))] ++ (fr ++ fc))) [x, y, [(pw, .cells [.pointer (some ⟨pr, 0, none⟩), .pointer (some ⟨pc, 0, none⟩), .int .i64 p.bytes, .int .i64 p.trail, .int .i64 p.marks, .int .i64 p.ahead, .int .i64 p.tickets, .int .i64 p.retries, .int .i64 p.step, .int .i64 (s.low : Nat)].toArray 115 (0, 0))] ++ (fr ++ fc)] w → Calls Tryz.prog 66 #[.pointer (some ⟨pw, 0, none⟩)] w _ := fun h => wmade_spec hF0 (h.front 2).owns1
  have p2 : ∀ {w x y}, Goes w0 (keys ([(pw, .cells [.pointer (some ⟨pr, 0, none⟩), .pointer (some ⟨pc, 0, none⟩), .int .i64 p.bytes, .int .i64 p.trail, .int .i64 p.marks, .int .i64 p.ahead, .int .i64 p.tickets, .int .i64 p.retries, .int .i64 p.step, .int .i64 (s.low : Nat)].toArray 115 (0, 0))] ++ (fr ++ fc))) [x, y, [(pw, .cells [.pointer (some ⟨pr, 0, none⟩), .pointer (some ⟨pc, 0, none⟩), .int .i64 p.bytes, .int .i64 p.trail, .int .i64 p.marks, .int .i64 p.ahead, .int .i64 p.tickets, .int .i64 p.retries, .int .i64 p.step, .int .i64 (s.low : Nat)].toArray 115 (0, 0))] ++ (fr ++ fc)] w → Calls Tryz.prog 67 #[.pointer (some ⟨pw, 0, none⟩)] w _ := fun h => wFloor_spec hF0 (h.front 2).owns1
  have p3 : ∀ {w x y}, Goes w0 (keys ([(pw, .cells [.pointer (some ⟨pr, 0, none⟩), .pointer (some ⟨pc, 0, none⟩), .int .i64 p.bytes, .int .i64 p.trail, .int .i64 p.marks, .int .i64 p.ahead, .int .i64 p.tickets, .int .i64 p.retries, .int .i64 p.step, .int .i64 (s.low : Nat)].toArray 115 (0, 0))] ++ (fr ++ fc))) [x, y, [(pw, .cells [.pointer (some ⟨pr, 0, none⟩), .pointer (some ⟨pc, 0, none⟩), .int .i64 p.bytes, .int .i64 p.trail, .int .i64 p.marks, .int .i64 p.ahead, .int .i64 p.tickets, .int .i64 p.retries, .int .i64 p.step, .int .i64 (s.low : Nat)].toArray 115 (0, 0))] ++ (fr ++ fc)] w → Calls Tryz.prog 100 #[.pointer (some ⟨pw, 0, none⟩)] w _ := fun h => wEnd_spec hF0 (h.front 2).owns1
  simp only [Tok.enc]
  unfold WS.keepB WS.keep
  dsimp only
  refine enter Tryz.func65 rfl (by simp only [Tryz.ntmps65, List.length_cons, List.length_nil, Nat.reduceAdd, Nat.reduceSub, List.replicate_succ, List.replicate_zero, List.cons_append, List.nil_append]; exact rfl) ?_
  by_cases hlo : a < s.fl
  · rw [if_pos (.inl hlo), if_pos (.inl hlo)]
    repeat' (first | refine zN ?_ | ((with_reducible refine WQ.nilG ?_); intro w hg) | (refine zB ?_; clear hg; intro b w hg; refine WO.fr ?_) | (refine zW ?_; clear hg; intro w hg; refine WO.fr ?_) | (refine op_pureB hg ?_; clear hg; intro w hg c hc; cases c <;> refine WO.fr ?_))
    refine WC.quietG hg ?_
    clear hg
    repeat' (first
      | ((with_reducible refine WQ.nilG ?_); intro w hg)
      | ((with_reducible refine WQ.cid ?_); first | refine WQ.xG ?_ | refine WQ.pure ?_)
      | ((with_reducible refine WQ.gid ?_); first | refine WQ.on rfl ?_ | refine WQ.offN rfl rfl ?_ | refine WQ.offU rfl ?_))
    repeat' (first | refine zN ?_ | ((with_reducible refine WQ.nilG ?_); intro w hg) | (refine zB ?_; clear hg; intro b w hg; refine WO.fr ?_) | (refine zW ?_; clear hg; intro w hg; refine WO.fr ?_) | (refine op_pureB hg ?_; clear hg; intro w hg c hc; cases c <;> refine WO.fr ?_))
    exact ret1 rfl ⟨_, rfl, hF0, (hg.front 2).head⟩
  by_cases hhi : (s.all.length : Int) < a
  · rw [if_pos (.inr hhi), if_pos (.inr hhi)]
    repeat' (first | refine zN ?_ | ((with_reducible refine WQ.nilG ?_); intro w hg) | (refine zB ?_; clear hg; intro b w hg; refine WO.fr ?_) | (refine zW ?_; clear hg; intro w hg; refine WO.fr ?_) | (refine op_pureB hg ?_; clear hg; intro w hg c hc; cases c <;> refine WO.fr ?_))
    refine WC.quietG hg ?_
    clear hg
    repeat' (first
      | ((with_reducible refine WQ.nilG ?_); intro w hg)
      | ((with_reducible refine WQ.cid ?_); first | refine WQ.xG ?_ | refine WQ.pure ?_)
      | ((with_reducible refine WQ.gid ?_); first | refine WQ.on rfl ?_ | refine WQ.offN rfl rfl ?_ | refine WQ.offU rfl ?_))
    repeat' (first | refine zN ?_ | ((with_reducible refine WQ.nilG ?_); intro w hg) | (refine zB ?_; clear hg; intro b w hg; refine WO.fr ?_) | (refine zW ?_; clear hg; intro w hg; refine WO.fr ?_) | (refine op_pureB hg ?_; clear hg; intro w hg c hc; cases c <;> refine WO.fr ?_))
    exact ret1 rfl ⟨_, rfl, hF0, (hg.front 2).head⟩
  have hno : ¬ (a < (s.fl : Int) ∨ (s.all.length : Int) < a) := by omega
  rw [if_neg hno, if_neg hno]
  repeat' (first | refine zN ?_ | ((with_reducible refine WQ.nilG ?_); intro w hg) | (refine zB ?_; clear hg; intro b w hg; refine WO.fr ?_) | (refine zW ?_; clear hg; intro w hg; refine WO.fr ?_) | (refine op_pureB hg ?_; clear hg; intro w hg c hc; cases c <;> refine WO.fr ?_))
  rename_i bs _
  refine WC.quietG hg ?_
  clear hg
  repeat' (first
    | ((with_reducible refine WQ.nilG ?_); intro w hg)
    | ((with_reducible refine WQ.cid ?_); first | refine WQ.xG ?_ | refine WQ.pure ?_)
    | ((with_reducible refine WQ.gid ?_); first | refine WQ.on rfl ?_ | refine WQ.offN rfl rfl ?_ | refine WQ.offU rfl ?_))
  repeat' (first | refine zN ?_ | ((with_reducible refine WQ.nilG ?_); intro w hg) | (refine zB ?_; clear hg; intro b w hg; refine WO.fr ?_) | (refine zW ?_; clear hg; intro w hg; refine WO.fr ?_) | (refine op_pureB hg ?_; clear hg; intro w hg c hc; cases c <;> refine WO.fr ?_))
  have s1 : ∀ {w : World}, (w.heap[pw]? = some (.cells [.pointer (some ⟨pr, 0, none⟩), .pointer (some ⟨pc, 0, none⟩), .int .i64 p.bytes, .int .i64 p.trail, .int .i64 p.marks, .int .i64 p.ahead, .int .i64 p.tickets, .int .i64 p.retries, .int .i64 p.step, .int .i64 (s.low : Nat)].toArray 115 (0, 0)) ∧ w.heap[bs]? = some (.cells [.int .i64 a, .int .i64 md].toArray 69 (0, 0)) ∧ w.heap[b]? = some (.cells [.int .i64 t.kind, .int .i64 t.rule, .int .i64 t.fr, .int .i64 t.at', .int .i64 t.to, .int .i64 t.mode].toArray 48 (0, 0))) → w.cell? ⟨pw, 1, none⟩ = some (.pointer (some ⟨pc, 0, none⟩)) := fun h => heap_cell h.1 rfl
  have t1 : ∀ {w : World}, (w.heap[pw]? = some (.cells [.pointer (some ⟨pr, 0, none⟩), .pointer (some ⟨pc, 0, none⟩), .int .i64 p.bytes, .int .i64 p.trail, .int .i64 p.marks, .int .i64 p.ahead, .int .i64 p.tickets, .int .i64 p.retries, .int .i64 p.step, .int .i64 (s.low : Nat)].toArray 115 (0, 0)) ∧ w.heap[bs]? = some (.cells [.int .i64 a, .int .i64 md].toArray 69 (0, 0)) ∧ w.heap[b]? = some (.cells [.int .i64 t.kind, .int .i64 t.rule, .int .i64 t.fr, .int .i64 t.at', .int .i64 t.to, .int .i64 t.mode].toArray 48 (0, 0))) → Cells w ⟨bs, 0, none⟩ [.int .i64 a, .int .i64 md] := fun h => heap_cells h.2.1 rfl
  have t2 : ∀ {w : World}, (w.heap[pw]? = some (.cells [.pointer (some ⟨pr, 0, none⟩), .pointer (some ⟨pc, 0, none⟩), .int .i64 p.bytes, .int .i64 p.trail, .int .i64 p.marks, .int .i64 p.ahead, .int .i64 p.tickets, .int .i64 p.retries, .int .i64 p.step, .int .i64 (s.low : Nat)].toArray 115 (0, 0)) ∧ w.heap[bs]? = some (.cells [.int .i64 a, .int .i64 md].toArray 69 (0, 0)) ∧ w.heap[b]? = some (.cells [.int .i64 t.kind, .int .i64 t.rule, .int .i64 t.fr, .int .i64 t.at', .int .i64 t.to, .int .i64 t.mode].toArray 48 (0, 0))) → Cells w ⟨b, 0, none⟩ [.int .i64 t.kind, .int .i64 t.rule, .int .i64 t.fr, .int .i64 t.at', .int .i64 t.to, .int .i64 t.mode] := fun h => heap_cells h.2.2 rfl
  refine WC.drawn (fun w => w.heap[pw]? = some (.cells [.pointer (some ⟨pr, 0, none⟩), .pointer (some ⟨pc, 0, none⟩), .int .i64 p.bytes, .int .i64 p.trail, .int .i64 p.marks, .int .i64 p.ahead, .int .i64 p.tickets, .int .i64 p.retries, .int .i64 p.step, .int .i64 (s.low : Nat)].toArray 115 (0, 0)) ∧ w.heap[bs]? = some (.cells [.int .i64 a, .int .i64 md].toArray 69 (0, 0)) ∧ w.heap[b]? = some (.cells [.int .i64 t.kind, .int .i64 t.rule, .int .i64 t.fr, .int .i64 t.at', .int .i64 t.to, .int .i64 t.mode].toArray 48 (0, 0))) [] hg ?_
  clear hg
  intro w hg
  have hS : (fun w => w.heap[pw]? = some (.cells [.pointer (some ⟨pr, 0, none⟩), .pointer (some ⟨pc, 0, none⟩), .int .i64 p.bytes, .int .i64 p.trail, .int .i64 p.marks, .int .i64 p.ahead, .int .i64 p.tickets, .int .i64 p.retries, .int .i64 p.step, .int .i64 (s.low : Nat)].toArray 115 (0, 0)) ∧ w.heap[bs]? = some (.cells [.int .i64 a, .int .i64 md].toArray 69 (0, 0)) ∧ w.heap[b]? = some (.cells [.int .i64 t.kind, .int .i64 t.rule, .int .i64 t.fr, .int .i64 t.at', .int .i64 t.to, .int .i64 t.mode].toArray 48 (0, 0))) w := ⟨hg.own (pw, .cells [.pointer (some ⟨pr, 0, none⟩), .pointer (some ⟨pc, 0, none⟩), .int .i64 p.bytes, .int .i64 p.trail, .int .i64 p.marks, .int .i64 p.ahead, .int .i64 p.tickets, .int .i64 p.retries, .int .i64 p.step, .int .i64 (s.low : Nat)].toArray 115 (0, 0)) (by simp), hg.own (bs, .cells [.int .i64 a, .int .i64 md].toArray 69 (0, 0)) (by simp), hg.own (b, .cells [.int .i64 t.kind, .int .i64 t.rule, .int .i64 t.fr, .int .i64 t.at', .int .i64 t.to, .int .i64 t.mode].toArray 48 (0, 0)) (by simp)⟩
  refine WA.passM 0 hS ?_
  refine WA.passM 1 hS ?_
  refine WA.passM 2 hS ?_
  refine WA.passM 3 hS ?_
  refine WA.passM 4 hS ?_
  refine WA.passM 5 hS ?_
  refine WA.only 6 ?_
  replace hg := (hg.front 2).three
  refine op_call (CPut_spec a md t (hg.front 2).owns1 h3 h4 (by omega)) ?_
  rintro _ w ⟨m3, h3', fc2, rfl, h3, h4p, hg2⟩
  replace hg := (hg.front 2).callF hg2
  clear hg2 hS
  refine ⟨_, rfl, ?_⟩
  refine WO.fr ?_
  cases hput : (rput s.ws ⟨a, md, t⟩ (p.bytes + 1)).2
  rotate_left
  · rw [if_pos rfl, if_pos rfl]
    have hS : (fun w => w.heap[pw]? = some (.cells [.pointer (some ⟨pr, 0, none⟩), .pointer (some ⟨pc, 0, none⟩), .int .i64 p.bytes, .int .i64 p.trail, .int .i64 p.marks, .int .i64 p.ahead, .int .i64 p.tickets, .int .i64 p.retries, .int .i64 p.step, .int .i64 (s.low : Nat)].toArray 115 (0, 0)) ∧ w.heap[bs]? = some (.cells [.int .i64 a, .int .i64 md].toArray 69 (0, 0)) ∧ w.heap[b]? = some (.cells [.int .i64 t.kind, .int .i64 t.rule, .int .i64 t.fr, .int .i64 t.at', .int .i64 t.to, .int .i64 t.mode].toArray 48 (0, 0))) w := ⟨hg.own (pw, .cells [.pointer (some ⟨pr, 0, none⟩), .pointer (some ⟨pc, 0, none⟩), .int .i64 p.bytes, .int .i64 p.trail, .int .i64 p.marks, .int .i64 p.ahead, .int .i64 p.tickets, .int .i64 p.retries, .int .i64 p.step, .int .i64 (s.low : Nat)].toArray 115 (0, 0)) (by simp), hg.own (bs, .cells [.int .i64 a, .int .i64 md].toArray 69 (0, 0)) (by simp), hg.own (b, .cells [.int .i64 t.kind, .int .i64 t.rule, .int .i64 t.fr, .int .i64 t.at', .int .i64 t.to, .int .i64 t.mode].toArray 48 (0, 0)) (by simp)⟩
    refine WO.nilA hS ?_
    refine WA.nil ?_
    repeat' (first | refine zN ?_ | ((with_reducible refine WQ.nilG ?_); intro w hg) | (refine zB ?_; clear hg; intro b w hg; refine WO.fr ?_) | (refine zW ?_; clear hg; intro w hg; refine WO.fr ?_) | (refine op_pureB hg ?_; clear hg; intro w hg c hc; cases c <;> refine WO.fr ?_))
    exact ret1 rfl ⟨_, rfl, ⟨pr, pc, n, bl, m3, h3', fr, fc2, rfl, hn, h1, h2, h3, h4p⟩, (((((hg.front 4).front 4).front 2).front 4).front 4).unthree.sub (by simp)⟩
  rw [if_neg (by decide), if_neg (by decide)]
  have hputs : (rput s.ws ⟨a, md, t⟩ (p.bytes + 1)).1 = s.ws := by
    revert hput
    unfold rput
    dsimp only
    split
    · intro h; cases h
    · split
      · intro _; rfl
      · intro h; cases h
  rw [hputs] at h4p
  have hF1 : WinF pw p s ([(pw, .cells [.pointer (some ⟨pr, 0, none⟩), .pointer (some ⟨pc, 0, none⟩), .int .i64 p.bytes, .int .i64 p.trail, .int .i64 p.marks, .int .i64 p.ahead, .int .i64 p.tickets, .int .i64 p.retries, .int .i64 p.step, .int .i64 (s.low : Nat)].toArray 115 (0, 0))] ++ (fr ++ fc2)) := ⟨pr, pc, n, bl, m3, h3', fr, fc2, rfl, hn, h1, h2, h3, h4p⟩
  have hS : (fun w => w.heap[pw]? = some (.cells [.pointer (some ⟨pr, 0, none⟩), .pointer (some ⟨pc, 0, none⟩), .int .i64 p.bytes, .int .i64 p.trail, .int .i64 p.marks, .int .i64 p.ahead, .int .i64 p.tickets, .int .i64 p.retries, .int .i64 p.step, .int .i64 (s.low : Nat)].toArray 115 (0, 0)) ∧ w.heap[bs]? = some (.cells [.int .i64 a, .int .i64 md].toArray 69 (0, 0)) ∧ w.heap[b]? = some (.cells [.int .i64 t.kind, .int .i64 t.rule, .int .i64 t.fr, .int .i64 t.at', .int .i64 t.to, .int .i64 t.mode].toArray 48 (0, 0))) w := ⟨hg.own (pw, .cells [.pointer (some ⟨pr, 0, none⟩), .pointer (some ⟨pc, 0, none⟩), .int .i64 p.bytes, .int .i64 p.trail, .int .i64 p.marks, .int .i64 p.ahead, .int .i64 p.tickets, .int .i64 p.retries, .int .i64 p.step, .int .i64 (s.low : Nat)].toArray 115 (0, 0)) (by simp), hg.own (bs, .cells [.int .i64 a, .int .i64 md].toArray 69 (0, 0)) (by simp), hg.own (b, .cells [.int .i64 t.kind, .int .i64 t.rule, .int .i64 t.fr, .int .i64 t.at', .int .i64 t.to, .int .i64 t.mode].toArray 48 (0, 0)) (by simp)⟩
  refine WO.nilA hS ?_
  refine WA.nil ?_
  clear hS p1 p2 p3 t1 t2
  repeat' (first | refine zN ?_ | ((with_reducible refine WQ.nilG ?_); intro w hg) | (refine zB ?_; clear hg; intro b w hg; refine WO.fr ?_) | (refine zW ?_; clear hg; intro w hg; refine WO.fr ?_) | (refine op_pureB hg ?_; clear hg; intro w hg c hc; cases c <;> refine WO.fr ?_))
  refine WC.drawn (fun w => w.heap[pw]? = some (.cells [.pointer (some ⟨pr, 0, none⟩), .pointer (some ⟨pc, 0, none⟩), .int .i64 p.bytes, .int .i64 p.trail, .int .i64 p.marks, .int .i64 p.ahead, .int .i64 p.tickets, .int .i64 p.retries, .int .i64 p.step, .int .i64 (s.low : Nat)].toArray 115 (0, 0)) ∧ w.heap[bs]? = some (.cells [.int .i64 a, .int .i64 md].toArray 69 (0, 0)) ∧ w.heap[b]? = some (.cells [.int .i64 t.kind, .int .i64 t.rule, .int .i64 t.fr, .int .i64 t.at', .int .i64 t.to, .int .i64 t.mode].toArray 48 (0, 0))) [] hg ?_
  clear hg
  intro w hg
  have hS : (fun w => w.heap[pw]? = some (.cells [.pointer (some ⟨pr, 0, none⟩), .pointer (some ⟨pc, 0, none⟩), .int .i64 p.bytes, .int .i64 p.trail, .int .i64 p.marks, .int .i64 p.ahead, .int .i64 p.tickets, .int .i64 p.retries, .int .i64 p.step, .int .i64 (s.low : Nat)].toArray 115 (0, 0)) ∧ w.heap[bs]? = some (.cells [.int .i64 a, .int .i64 md].toArray 69 (0, 0)) ∧ w.heap[b]? = some (.cells [.int .i64 t.kind, .int .i64 t.rule, .int .i64 t.fr, .int .i64 t.at', .int .i64 t.to, .int .i64 t.mode].toArray 48 (0, 0))) w := ⟨hg.own (pw, .cells [.pointer (some ⟨pr, 0, none⟩), .pointer (some ⟨pc, 0, none⟩), .int .i64 p.bytes, .int .i64 p.trail, .int .i64 p.marks, .int .i64 p.ahead, .int .i64 p.tickets, .int .i64 p.retries, .int .i64 p.step, .int .i64 (s.low : Nat)].toArray 115 (0, 0)) (by simp), hg.own (bs, .cells [.int .i64 a, .int .i64 md].toArray 69 (0, 0)) (by simp), hg.own (b, .cells [.int .i64 t.kind, .int .i64 t.rule, .int .i64 t.fr, .int .i64 t.at', .int .i64 t.to, .int .i64 t.mode].toArray 48 (0, 0)) (by simp)⟩
  refine WA.passM 0 hS ?_
  refine WA.passM 1 hS ?_
  refine WA.passM 2 hS ?_
  refine WA.passM 4 hS ?_
  refine WA.passM 3 hS ?_
  refine WA.only 5 ?_
  replace hg : Goes w0 _ [[(pw, .cells [.pointer (some ⟨pr, 0, none⟩), .pointer (some ⟨pc, 0, none⟩), .int .i64 p.bytes, .int .i64 p.trail, .int .i64 p.marks, .int .i64 p.ahead, .int .i64 p.tickets, .int .i64 p.retries, .int .i64 p.step, .int .i64 (s.low : Nat)].toArray 115 (0, 0))] ++ (fr ++ fc2), [(b, .cells [.int .i64 t.kind, .int .i64 t.rule, .int .i64 t.fr, .int .i64 t.at', .int .i64 t.to, .int .i64 t.mode].toArray 48 (0, 0))], [(bs, .cells [.int .i64 a, .int .i64 md].toArray 69 (0, 0))]] w := (((((hg.front 4).front 4).front 2).front 4).front 4).unthree
  refine op_pure hg ?_ (hc := wFloor_spec hF1 hg.owns1)
  clear hg hS
  intro w hg
  refine WO.fr ?_
  have hS : (fun w => w.heap[pw]? = some (.cells [.pointer (some ⟨pr, 0, none⟩), .pointer (some ⟨pc, 0, none⟩), .int .i64 p.bytes, .int .i64 p.trail, .int .i64 p.marks, .int .i64 p.ahead, .int .i64 p.tickets, .int .i64 p.retries, .int .i64 p.step, .int .i64 (s.low : Nat)].toArray 115 (0, 0)) ∧ w.heap[bs]? = some (.cells [.int .i64 a, .int .i64 md].toArray 69 (0, 0)) ∧ w.heap[b]? = some (.cells [.int .i64 t.kind, .int .i64 t.rule, .int .i64 t.fr, .int .i64 t.at', .int .i64 t.to, .int .i64 t.mode].toArray 48 (0, 0))) w := ⟨hg.own (pw, .cells [.pointer (some ⟨pr, 0, none⟩), .pointer (some ⟨pc, 0, none⟩), .int .i64 p.bytes, .int .i64 p.trail, .int .i64 p.marks, .int .i64 p.ahead, .int .i64 p.tickets, .int .i64 p.retries, .int .i64 p.step, .int .i64 (s.low : Nat)].toArray 115 (0, 0)) (by simp), hg.own (bs, .cells [.int .i64 a, .int .i64 md].toArray 69 (0, 0)) (by simp), hg.own (b, .cells [.int .i64 t.kind, .int .i64 t.rule, .int .i64 t.fr, .int .i64 t.at', .int .i64 t.to, .int .i64 t.mode].toArray 48 (0, 0)) (by simp)⟩
  refine WO.nilA hS ?_
  refine WA.only 6 ?_
  replace hg := hg.three
  refine op_call (CSweep_spec _ _ (hg.front 2).owns1 h3 h4p (by omega)) ?_
  rintro _ w ⟨m4, h4', fc3, rfl, h3, h4s, hg2⟩
  replace hg := (hg.front 2).callF hg2
  clear hg2 hS
  refine ⟨_, rfl, ?_⟩
  refine WO.fr ?_
  have hS : (fun w => w.heap[pw]? = some (.cells [.pointer (some ⟨pr, 0, none⟩), .pointer (some ⟨pc, 0, none⟩), .int .i64 p.bytes, .int .i64 p.trail, .int .i64 p.marks, .int .i64 p.ahead, .int .i64 p.tickets, .int .i64 p.retries, .int .i64 p.step, .int .i64 (s.low : Nat)].toArray 115 (0, 0)) ∧ w.heap[bs]? = some (.cells [.int .i64 a, .int .i64 md].toArray 69 (0, 0)) ∧ w.heap[b]? = some (.cells [.int .i64 t.kind, .int .i64 t.rule, .int .i64 t.fr, .int .i64 t.at', .int .i64 t.to, .int .i64 t.mode].toArray 48 (0, 0))) w := ⟨hg.own (pw, .cells [.pointer (some ⟨pr, 0, none⟩), .pointer (some ⟨pc, 0, none⟩), .int .i64 p.bytes, .int .i64 p.trail, .int .i64 p.marks, .int .i64 p.ahead, .int .i64 p.tickets, .int .i64 p.retries, .int .i64 p.step, .int .i64 (s.low : Nat)].toArray 115 (0, 0)) (by simp), hg.own (bs, .cells [.int .i64 a, .int .i64 md].toArray 69 (0, 0)) (by simp), hg.own (b, .cells [.int .i64 t.kind, .int .i64 t.rule, .int .i64 t.fr, .int .i64 t.at', .int .i64 t.to, .int .i64 t.mode].toArray 48 (0, 0)) (by simp)⟩
  refine WO.nilA hS ?_
  refine WA.nil ?_
  clear hS
  repeat' (first | refine zN ?_ | ((with_reducible refine WQ.nilG ?_); intro w hg) | (refine zB ?_; clear hg; intro b w hg; refine WO.fr ?_) | (refine zW ?_; clear hg; intro w hg; refine WO.fr ?_) | (refine op_pureB hg ?_; clear hg; intro w hg c hc; cases c <;> refine WO.fr ?_))
  have t1 : ∀ {w : World}, (w.heap[pw]? = some (.cells [.pointer (some ⟨pr, 0, none⟩), .pointer (some ⟨pc, 0, none⟩), .int .i64 p.bytes, .int .i64 p.trail, .int .i64 p.marks, .int .i64 p.ahead, .int .i64 p.tickets, .int .i64 p.retries, .int .i64 p.step, .int .i64 (s.low : Nat)].toArray 115 (0, 0)) ∧ w.heap[bs]? = some (.cells [.int .i64 a, .int .i64 md].toArray 69 (0, 0)) ∧ w.heap[b]? = some (.cells [.int .i64 t.kind, .int .i64 t.rule, .int .i64 t.fr, .int .i64 t.at', .int .i64 t.to, .int .i64 t.mode].toArray 48 (0, 0))) → Cells w ⟨bs, 0, none⟩ [.int .i64 a, .int .i64 md] := fun h => heap_cells h.2.1 rfl
  have t2 : ∀ {w : World}, (w.heap[pw]? = some (.cells [.pointer (some ⟨pr, 0, none⟩), .pointer (some ⟨pc, 0, none⟩), .int .i64 p.bytes, .int .i64 p.trail, .int .i64 p.marks, .int .i64 p.ahead, .int .i64 p.tickets, .int .i64 p.retries, .int .i64 p.step, .int .i64 (s.low : Nat)].toArray 115 (0, 0)) ∧ w.heap[bs]? = some (.cells [.int .i64 a, .int .i64 md].toArray 69 (0, 0)) ∧ w.heap[b]? = some (.cells [.int .i64 t.kind, .int .i64 t.rule, .int .i64 t.fr, .int .i64 t.at', .int .i64 t.to, .int .i64 t.mode].toArray 48 (0, 0))) → Cells w ⟨b, 0, none⟩ [.int .i64 t.kind, .int .i64 t.rule, .int .i64 t.fr, .int .i64 t.at', .int .i64 t.to, .int .i64 t.mode] := fun h => heap_cells h.2.2 rfl
  refine WC.drawn (fun w => w.heap[pw]? = some (.cells [.pointer (some ⟨pr, 0, none⟩), .pointer (some ⟨pc, 0, none⟩), .int .i64 p.bytes, .int .i64 p.trail, .int .i64 p.marks, .int .i64 p.ahead, .int .i64 p.tickets, .int .i64 p.retries, .int .i64 p.step, .int .i64 (s.low : Nat)].toArray 115 (0, 0)) ∧ w.heap[bs]? = some (.cells [.int .i64 a, .int .i64 md].toArray 69 (0, 0)) ∧ w.heap[b]? = some (.cells [.int .i64 t.kind, .int .i64 t.rule, .int .i64 t.fr, .int .i64 t.at', .int .i64 t.to, .int .i64 t.mode].toArray 48 (0, 0))) [] hg ?_
  clear hg
  intro w hg
  have hS : (fun w => w.heap[pw]? = some (.cells [.pointer (some ⟨pr, 0, none⟩), .pointer (some ⟨pc, 0, none⟩), .int .i64 p.bytes, .int .i64 p.trail, .int .i64 p.marks, .int .i64 p.ahead, .int .i64 p.tickets, .int .i64 p.retries, .int .i64 p.step, .int .i64 (s.low : Nat)].toArray 115 (0, 0)) ∧ w.heap[bs]? = some (.cells [.int .i64 a, .int .i64 md].toArray 69 (0, 0)) ∧ w.heap[b]? = some (.cells [.int .i64 t.kind, .int .i64 t.rule, .int .i64 t.fr, .int .i64 t.at', .int .i64 t.to, .int .i64 t.mode].toArray 48 (0, 0))) w := ⟨hg.own (pw, .cells [.pointer (some ⟨pr, 0, none⟩), .pointer (some ⟨pc, 0, none⟩), .int .i64 p.bytes, .int .i64 p.trail, .int .i64 p.marks, .int .i64 p.ahead, .int .i64 p.tickets, .int .i64 p.retries, .int .i64 p.step, .int .i64 (s.low : Nat)].toArray 115 (0, 0)) (by simp), hg.own (bs, .cells [.int .i64 a, .int .i64 md].toArray 69 (0, 0)) (by simp), hg.own (b, .cells [.int .i64 t.kind, .int .i64 t.rule, .int .i64 t.fr, .int .i64 t.at', .int .i64 t.to, .int .i64 t.mode].toArray 48 (0, 0)) (by simp)⟩
  refine WA.passM 0 hS ?_
  refine WA.passM 1 hS ?_
  refine WA.passM 2 hS ?_
  refine WA.passM 3 hS ?_
  refine WA.passM 4 hS ?_
  refine WA.passM 5 hS ?_
  refine WA.only 6 ?_
  refine op_call (CPut_spec a md t hg.owns1 h3 h4s (by simp only [List.length_drop]; omega)) ?_
  rintro _ w ⟨m5, h5', fc4, rfl, h3, h4q, hg2⟩
  replace hg := hg.callF hg2
  clear hg2 hS
  refine ⟨_, rfl, ?_⟩
  refine WO.fr ?_
  have hS : (fun w => w.heap[pw]? = some (.cells [.pointer (some ⟨pr, 0, none⟩), .pointer (some ⟨pc, 0, none⟩), .int .i64 p.bytes, .int .i64 p.trail, .int .i64 p.marks, .int .i64 p.ahead, .int .i64 p.tickets, .int .i64 p.retries, .int .i64 p.step, .int .i64 (s.low : Nat)].toArray 115 (0, 0)) ∧ w.heap[bs]? = some (.cells [.int .i64 a, .int .i64 md].toArray 69 (0, 0)) ∧ w.heap[b]? = some (.cells [.int .i64 t.kind, .int .i64 t.rule, .int .i64 t.fr, .int .i64 t.at', .int .i64 t.to, .int .i64 t.mode].toArray 48 (0, 0))) w := ⟨hg.own (pw, .cells [.pointer (some ⟨pr, 0, none⟩), .pointer (some ⟨pc, 0, none⟩), .int .i64 p.bytes, .int .i64 p.trail, .int .i64 p.marks, .int .i64 p.ahead, .int .i64 p.tickets, .int .i64 p.retries, .int .i64 p.step, .int .i64 (s.low : Nat)].toArray 115 (0, 0)) (by simp), hg.own (bs, .cells [.int .i64 a, .int .i64 md].toArray 69 (0, 0)) (by simp), hg.own (b, .cells [.int .i64 t.kind, .int .i64 t.rule, .int .i64 t.fr, .int .i64 t.at', .int .i64 t.to, .int .i64 t.mode].toArray 48 (0, 0)) (by simp)⟩
  refine WO.nilA hS ?_
  refine WA.passM 7 hS ?_
  refine WA.nil ?_
  repeat' (first | refine zN ?_ | ((with_reducible refine WQ.nilG ?_); intro w hg) | (refine zB ?_; clear hg; intro b w hg; refine WO.fr ?_) | (refine zW ?_; clear hg; intro w hg; refine WO.fr ?_) | (refine op_pureB hg ?_; clear hg; intro w hg c hc; cases c <;> refine WO.fr ?_))
  exact ret1 rfl ⟨_, rfl, ⟨pr, pc, n, bl, m5, h5', fr, fc4, rfl, hn, h1, h2, h3, h4q⟩, (((((hg.front 4).front 4).front 2).front 4).front 4).unthree.sub (by simp)⟩
end
end Go.Proofs.YtkdidefghbeabaaGreat
namespace Go.Proofs.YtkdidefghbeabaaGreat
open Go Go.RowKit
set_option maxRecDepth 10000
set_option linter.unusedSimpArgs false
set_option linter.unusedVariables false

def getV (o : Option CE) : Value := match o with
  | some e => .tuple #[.agg e.tok.enc.toArray, .bool true]
  | none => .tuple #[.agg Tok.none.enc.toArray, .bool false]
section
variable {pw : Nat} {p : Prm} {s : WS} {f : Frag} {w0 : World}
set_option maxHeartbeats 4000000 in
theorem wAt_spec (i : Int) (hF : WinF pw p s f) (hO : Owns w0 f) (hW : WOK p.bytes s) : Calls Tryz.prog 62 #[.pointer (some ⟨pw, 0, none⟩), .int .i64 i] w0 fun e w' =>
    (∃ b : UInt8, e = .returned (.tuple #[.int .u8 (b.toNat : Int), .bool (decide ((s.fl : Int) ≤ i) && decide (i < s.all.length))])) ∧ Goes w0 [] [] w' := by
  obtain ⟨pr, pc, n, bl, m, h, fr, fc, hn, h1, h2, h3, h4, hh, o2, o3⟩ := hF.get hO
  have hb2 := hW.b2
  have hg := Goes.refl w0
  have p1 : ∀ {w Fs}, Goes w0 [] Fs w → Calls Tryz.prog 66 #[.pointer (some ⟨pw, 0, none⟩)] w _ := fun h => wmade_spec hF (hO.on h)
  have c0 : w0.cell? ⟨pw, 0, none⟩ = some (.pointer (some ⟨pr, 0, none⟩)) := heap_cell hh rfl
  have c1 : ∀ {w Fs}, Goes w0 [] Fs w → w.cell? ⟨pw, 0, none⟩ = some (.pointer (some ⟨pr, 0, none⟩)) := fun h => h.cellOld0 c0
  refine enter Tryz.func62 rfl (by simp only [Tryz.ntmps62, List.length_cons, List.length_nil, Nat.reduceAdd, Nat.reduceSub, List.replicate_succ, List.replicate_zero, List.cons_append, List.nil_append]; exact rfl) ?_
  repeat' (first | refine zN ?_ | (refine WC.quietG hg ?_; clear hg) | ((with_reducible refine WQ.nilG ?_); intro w hg) | (refine zB ?_; clear hg; intro b w hg; refine WO.fr ?_) | (refine zW ?_; clear hg; intro w hg; refine WO.fr ?_) | (refine op_pureB hg ?_; clear hg; intro w hg c hc; cases c <;> refine WO.fr ?_))
  refine op_call (rAt_spec i h1 (heap_goes o2.1 hg) h2 (by omega)) ?_
  rintro _ w2 ⟨⟨b, rfl⟩, hg2⟩
  replace hg := hg.call00 hg2
  clear hg2
  refine ⟨_, rfl, ?_⟩
  refine WO.fr ?_
  repeat' (first | refine zN ?_ | (refine WC.quietG hg ?_; clear hg) | ((with_reducible refine WQ.nilG ?_); intro w hg) | (refine zB ?_; clear hg; intro b w hg; refine WO.fr ?_) | (refine zW ?_; clear hg; intro w hg; refine WO.fr ?_) | (refine op_pureB hg ?_; clear hg; intro w hg c hc; cases c <;> refine WO.fr ?_))
  exact ret (.tmp rfl (.tmp rfl .nil)) ⟨⟨b, rfl⟩, hg.drop⟩
set_option maxHeartbeats 4000000 in
theorem wKnown_spec (a md : Int) (hF : WinF pw p s f) (hO : Owns w0 f) : Calls Tryz.prog 60 #[.pointer (some ⟨pw, 0, none⟩), .agg [.int .i64 a, .int .i64 md].toArray] w0 fun e w' => e = .returned (getV (rget s.ws a md)) ∧ Goes w0 (keys f) [f] w' := by
  have hF0 := hF
  obtain ⟨pr, pc, n, bl, m, h, fr, fc, rfl, hn, h1, h2, h3, h4⟩ := hF
  have hg := hO.goes
  have p1 : ∀ {w x y}, Goes w0 (keys ([(pw, .cells [.pointer (some ⟨pr, 0, none⟩), .pointer (some ⟨pc, 0, none⟩), .int .i64 p.bytes, .int .i64 p.trail, .int .i64 p.marks, .int .i64 p.ahead, .int .i64 p.tickets, .int .i64 p.retries, .int .i64 p.step, .int .i64 (s.low : Nat)].toArray 115 (0, 0))] ++ (fr ++ fc))) [x, y, [(pw, .cells [.pointer (some ⟨pr, 0, none⟩), .pointer (some ⟨pc, 0, none⟩), .int .i64 p.bytes, .int .i64 p.trail, .int .i64 p.marks, .int .i64 p.ahead, .int .i64 p.tickets, .int .i64 p.retries, .int .i64 p.step, .int .i64 (s.low : Nat)].toArray 115 (0, 0))] ++ (fr ++ fc)] w → Calls Tryz.prog 66 #[.pointer (some ⟨pw, 0, none⟩)] w _ := fun h => wmade_spec hF0 (h.front 2).owns1
  have hv : ∃ (tk : Tok) (bb : Bool), getV (rget s.ws a md) = .tuple #[.agg tk.enc.toArray, .bool bb] := by
    cases rget s.ws a md with
    | none => exact ⟨_, _, rfl⟩
    | some e => exact ⟨_, _, rfl⟩
  obtain ⟨tk, bb, hv⟩ := hv
  have hget : ∀ {w : World}, Owns w fc → Calls Tryz.prog 94 #[.pointer (some ⟨pc, 0, none⟩), .agg [.int .i64 a, .int .i64 md].toArray] w fun e w' => e = .returned (getV (rget s.ws a md)) ∧ Goes w (keys fc) [fc] w' := fun ho => CGetR_spec a md ho h3 h4
  rw [hv] at hget ⊢
  simp only [Tok.enc] at hget ⊢
  refine enter Tryz.func60 rfl (by simp only [Tryz.ntmps60, List.length_cons, List.length_nil, Nat.reduceAdd, Nat.reduceSub, List.replicate_succ, List.replicate_zero, List.cons_append, List.nil_append]; exact rfl) ?_
  repeat' (first | refine zN ?_ | ((with_reducible refine WQ.nilG ?_); intro w hg) | (refine zB ?_; clear hg; intro b w hg; refine WO.fr ?_) | (refine zW ?_; clear hg; intro w hg; refine WO.fr ?_) | (refine op_pureB hg ?_; clear hg; intro w hg c hc; cases c <;> refine WO.fr ?_))
  rename_i bs _ _
  have s1 : ∀ {w : World}, (w.heap[pw]? = some (.cells [.pointer (some ⟨pr, 0, none⟩), .pointer (some ⟨pc, 0, none⟩), .int .i64 p.bytes, .int .i64 p.trail, .int .i64 p.marks, .int .i64 p.ahead, .int .i64 p.tickets, .int .i64 p.retries, .int .i64 p.step, .int .i64 (s.low : Nat)].toArray 115 (0, 0)) ∧ w.heap[bs]? = some (.cells [.int .i64 a, .int .i64 md].toArray 69 (0, 0))) → w.cell? ⟨pw, 1, none⟩ = some (.pointer (some ⟨pc, 0, none⟩)) := fun h => heap_cell h.1 rfl
  have t1 : ∀ {w : World}, (w.heap[pw]? = some (.cells [.pointer (some ⟨pr, 0, none⟩), .pointer (some ⟨pc, 0, none⟩), .int .i64 p.bytes, .int .i64 p.trail, .int .i64 p.marks, .int .i64 p.ahead, .int .i64 p.tickets, .int .i64 p.retries, .int .i64 p.step, .int .i64 (s.low : Nat)].toArray 115 (0, 0)) ∧ w.heap[bs]? = some (.cells [.int .i64 a, .int .i64 md].toArray 69 (0, 0))) → Cells w ⟨bs, 0, none⟩ [.int .i64 a, .int .i64 md] := fun h => heap_cells h.2 rfl
  refine WC.drawn (fun w => w.heap[pw]? = some (.cells [.pointer (some ⟨pr, 0, none⟩), .pointer (some ⟨pc, 0, none⟩), .int .i64 p.bytes, .int .i64 p.trail, .int .i64 p.marks, .int .i64 p.ahead, .int .i64 p.tickets, .int .i64 p.retries, .int .i64 p.step, .int .i64 (s.low : Nat)].toArray 115 (0, 0)) ∧ w.heap[bs]? = some (.cells [.int .i64 a, .int .i64 md].toArray 69 (0, 0))) [8, 9] hg ?_
  clear hg
  intro w hg
  have hS : (fun w => w.heap[pw]? = some (.cells [.pointer (some ⟨pr, 0, none⟩), .pointer (some ⟨pc, 0, none⟩), .int .i64 p.bytes, .int .i64 p.trail, .int .i64 p.marks, .int .i64 p.ahead, .int .i64 p.tickets, .int .i64 p.retries, .int .i64 p.step, .int .i64 (s.low : Nat)].toArray 115 (0, 0)) ∧ w.heap[bs]? = some (.cells [.int .i64 a, .int .i64 md].toArray 69 (0, 0))) w := ⟨hg.own (pw, .cells [.pointer (some ⟨pr, 0, none⟩), .pointer (some ⟨pc, 0, none⟩), .int .i64 p.bytes, .int .i64 p.trail, .int .i64 p.marks, .int .i64 p.ahead, .int .i64 p.tickets, .int .i64 p.retries, .int .i64 p.step, .int .i64 (s.low : Nat)].toArray 115 (0, 0)) (by simp), hg.own (bs, .cells [.int .i64 a, .int .i64 md].toArray 69 (0, 0)) (by simp)⟩
  refine WA.passM 0 hS ?_
  refine WA.passM 1 hS ?_
  refine WA.passM 2 hS ?_
  refine WA.passM 3 hS ?_
  refine WA.passM 4 hS ?_
  refine WA.only 5 ?_
  replace hg := (hg.front 2).three
  refine op_call (hget (hg.front 2).owns1) ?_
  rintro _ w ⟨rfl, hg2⟩
  replace hg := (hg.front 2).callF hg2
  clear hg2 hS
  refine ⟨_, rfl, ?_⟩
  refine WO.fr ?_
  have hS : (fun w => w.heap[pw]? = some (.cells [.pointer (some ⟨pr, 0, none⟩), .pointer (some ⟨pc, 0, none⟩), .int .i64 p.bytes, .int .i64 p.trail, .int .i64 p.marks, .int .i64 p.ahead, .int .i64 p.tickets, .int .i64 p.retries, .int .i64 p.step, .int .i64 (s.low : Nat)].toArray 115 (0, 0)) ∧ w.heap[bs]? = some (.cells [.int .i64 a, .int .i64 md].toArray 69 (0, 0))) w := ⟨hg.own (pw, .cells [.pointer (some ⟨pr, 0, none⟩), .pointer (some ⟨pc, 0, none⟩), .int .i64 p.bytes, .int .i64 p.trail, .int .i64 p.marks, .int .i64 p.ahead, .int .i64 p.tickets, .int .i64 p.retries, .int .i64 p.step, .int .i64 (s.low : Nat)].toArray 115 (0, 0)) (by simp), hg.own (bs, .cells [.int .i64 a, .int .i64 md].toArray 69 (0, 0)) (by simp)⟩
  refine WO.nilA hS ?_
  refine WA.passM 6 hS ?_
  refine WA.passM 7 hS ?_
  refine WA.only 8 ?_
  refine op_storeA hg ?_
  clear hg hS
  intro w hg
  simp only [over, List.take_zero, List.take_succ_cons, List.drop_zero, List.drop_succ_cons, List.nil_append, List.cons_append, List.append_nil, List.length_cons, List.length_nil, Nat.zero_add, Nat.reduceAdd] at hg
  refine WO.fr ?_
  refine WO.nilL ?_
  refine WA.passL 9 ?_
  refine WA.nil ?_
  repeat' (first | refine zN ?_ | ((with_reducible refine WQ.nilG ?_); intro w hg) | (refine zB ?_; clear hg; intro b w hg; refine WO.fr ?_) | (refine zW ?_; clear hg; intro w hg; refine WO.fr ?_) | (refine op_pureB hg ?_; clear hg; intro w hg c hc; cases c <;> refine WO.fr ?_))
  exact ret (.cells rfl (by first | with_reducible assumption | ((with_reducible apply Cells.ldn); (first | with_reducible assumption | ((with_reducible apply hg.cells0); with_reducible assumption) | with_reducible exact r1 hg | with_reducible exact r2 hg | with_reducible exact r3 hg | with_reducible exact r4 hg | with_reducible exact r5 hg | with_reducible exact t1 hs | with_reducible exact t2 hs | with_reducible exact t3 hs | with_reducible exact t4 hs); exact rfl) | ((with_reducible apply CellsAt.ldn (hg := hg)); (repeat (first | ((with_reducible apply CellsAt.whole); exact rfl) | ((with_reducible apply CellsAt.here) <;> first | with_reducible assumption | (simp only [List.drop_zero, List.drop_succ_cons, List.take_succ_cons, List.take_zero]; exact rfl) | exact rfl) | with_reducible apply CellsAt.more | with_reducible apply CellsAt.next)); done)) (.tmp rfl .nil)) ⟨rfl, (((((hg.front 4).front 4).front 2).front 4).front 4).unthree.head⟩
end
end Go.Proofs.YtkdidefghbeabaaGreat
namespace Go.Proofs.YtkdidefghbeabaaGreat
open Go Go.RowKit
set_option maxRecDepth 10000
set_option linter.unusedSimpArgs false
set_option linter.unusedVariables false

structure SC where
  at0 : Int
  md0 : Int
  mode : Int
  fr : Int
  nx : Int
  st : Int
  rule : Int
  to : Int
  tok : Tok
  reads : Int
def SC.lexeme (s : SC) : List Value := [.int .i64 s.fr, .int .i64 s.nx, .int .i64 s.st, .int .i64 s.rule, .int .i64 s.to]
abbrev scF (ps : Nat) (vm vd va : Value) (s : SC) : Frag := [(ps, .cells [vm, vd, va, .int .i64 s.at0, .int .i64 s.md0, .int .i64 s.mode, .int .i64 s.fr, .int .i64 s.nx, .int .i64 s.st, .int .i64 s.rule, .int .i64 s.to, .int .i64 s.tok.kind, .int .i64 s.tok.rule, .int .i64 s.tok.fr, .int .i64 s.tok.at', .int .i64 s.tok.to, .int .i64 s.tok.mode, .int .i64 s.reads].toArray 157 (0, 0))]

def PDfa.none : PDfa := ⟨[], 0, [], [], -1⟩
/-- The mode's automaton. -/
def PLex.dfa (L : PLex) (m : Int) : PDfa := L.dfas.getD m.toNat PDfa.none
structure SCOK (L : PLex) (s : SC) : Prop where
  m : 0 ≤ s.mode ∧ s.mode < L.modes.length
  f : 0 ≤ s.fr ∧ s.fr ≤ s.nx
  n : s.fr < s.nx → s.nx ≤ 200000
  st : -1 ≤ s.st ∧ s.st < (L.dfa s.mode).next.length
  r : s.rule = -1 ∨ (0 ≤ s.rule ∧ s.rule < L.acts.length ∧ s.fr < s.to ∧ s.to ≤ s.nx)

def maxL : List Int → Int
  | [] => 0
  | [x] => x
  | x :: y :: l => max x (maxL (y :: l))
theorem maxL_spec : ∀ {l : List Int}, l ≠ [] → maxL l ∈ l ∧ ∀ k ∈ l, k ≤ maxL l
  | [], h => absurd rfl h
  | [x], _ => by simp [maxL]
  | x :: y :: l, _ => by
    obtain ⟨h1, h2⟩ := maxL_spec (l := y :: l) (by simp)
    simp only [maxL]
    refine ⟨?_, fun k hk => ?_⟩
    · rcases Int.le_total x (maxL (y :: l)) with h | h
      · rw [Int.max_eq_right h]; exact List.mem_cons_of_mem _ h1
      · rw [Int.max_eq_left h]; exact List.mem_cons_self
    · rcases List.mem_cons.1 hk with rfl | hk
      · omega
      · have := h2 k hk; omega
theorem MaxD_spec (w0 : World) (v : Value) (l : List Int) (hS : IntsAt w0 v l) (hl : 0 < l.length) (hl2 : l.length ≤ 1000000) : Calls Tryz.prog 113 #[v] w0 fun e w' => e = .returned (.int .i64 (maxL l)) ∧ Goes w0 [] [] w' :=
  (Max_spec w0 v l hS hl hl2).mono fun e w' ⟨⟨M, he, h1, h2⟩, h3⟩ => ⟨by
    obtain ⟨h4, h5⟩ := maxL_spec (List.ne_nil_of_mem h1)
    have := h5 M h1
    have := h2 _ h4
    rw [he, show M = maxL l from by omega], h3⟩

theorem eqL_tok (s t : Tok) : eqL [.int, .int, .int, .int, .int, .int] s.enc t.enc = some (decide (s = t)) := by
  obtain ⟨a1, a2, a3, a4, a5, a6⟩ := s
  obtain ⟨b1, b2, b3, b4, b5, b6⟩ := t
  simp [eqL, eqC, Tok.enc, Bool.decide_and]
  rfl

theorem dfa_get {L : PLex} {m : Int} (hok : LexOK L) (h : 0 ≤ m ∧ m < L.modes.length) : ∃ hi : m.toNat < L.dfas.length, L.dfa m = L.dfas[m.toNat] := by
  have hi : m.toNat < L.dfas.length := by have := hok.d1; omega
  refine ⟨hi, ?_⟩
  unfold PLex.dfa
  rw [List.getD_eq_getElem?_getD, List.getElem?_eq_getElem hi]
  rfl
theorem dfa_ok {L : PLex} {m : Int} (hok : LexOK L) (h : 0 ≤ m ∧ m < L.modes.length) : DfaOK L.acts.length (L.dfa m) := by
  obtain ⟨hi, e⟩ := dfa_get hok h
  rw [e]
  exact hok.d2 _ hi
/-- Where a mode's automaton lies. -/
theorem dfas_at {W : World} {vd : Value} {L : PLex} {m : Int} (hD : NestAt DfaAt W 5 vd L.dfas) (hok : LexOK L) (h : 0 ≤ m ∧ m < L.modes.length) :
    ∃ bd kd cd vc vn vt, vd = .slice (some ⟨bd, kd, none⟩) L.dfas.length cd ∧ Cells W ⟨bd, kd + m.toNat * 5, none⟩ [vc, .int .i64 (L.dfa m).width, vn, vt, .int .i64 (L.dfa m).start] ∧ IntsAt W vc (L.dfa m).cls ∧ NestAt RowAt W 1 vn (L.dfa m).next ∧ IntsAt W vt (L.dfa m).tag := by
  obtain ⟨hi, e⟩ := dfa_get hok h
  obtain ⟨b, k, cap, cs, h1, _, h3, vc, vn, vt, rfl, h4, h5, h6⟩ := hD.get hi
  rw [e]
  exact ⟨b, k, cap, vc, vn, vt, h1, h3, h4, h5, h6⟩
theorem Cells.get {w : World} {b k j : Nat} {cs : List Value} {v : Value} (h : Cells w ⟨b, k, none⟩ cs) (hv : cs[j]? = some v) : w.cell? ⟨b, k + j, none⟩ = some v := by
  have := h j v hv
  rwa [add_lit] at this

section
variable {W : World} {ps : Nat} {vm vd va : Value} {L : PLex} {s : SC} {Fs : List Frag} {w : World}
theorem sknown_spec (hg : Goes W [] (scF ps vm vd va s :: Fs) w) : Calls Tryz.prog 98 #[.pointer (some ⟨ps, 0, none⟩)] w fun e w' => e = .returned (.bool (!(decide (s.tok = Tok.none)))) ∧ Goes w [] [] w' := by
  have hc : ∀ k v, [vm, vd, va, .int .i64 s.at0, .int .i64 s.md0, .int .i64 s.mode, .int .i64 s.fr, .int .i64 s.nx, .int .i64 s.st, .int .i64 s.rule, .int .i64 s.to, .int .i64 s.tok.kind, .int .i64 s.tok.rule, .int .i64 s.tok.fr, .int .i64 s.tok.at', .int .i64 s.tok.to, .int .i64 s.tok.mode, .int .i64 s.reads][k]? = some v → w.cell? ⟨ps, k, none⟩ = some v := fun k v h => heap_cell (hg.own (ps, .cells [vm, vd, va, .int .i64 s.at0, .int .i64 s.md0, .int .i64 s.mode, .int .i64 s.fr, .int .i64 s.nx, .int .i64 s.st, .int .i64 s.rule, .int .i64 s.to, .int .i64 s.tok.kind, .int .i64 s.tok.rule, .int .i64 s.tok.fr, .int .i64 s.tok.at', .int .i64 s.tok.to, .int .i64 s.tok.mode, .int .i64 s.reads].toArray 157 (0, 0)) (by simp [scF])) h
  have hcs : Cells w ⟨ps, 11, none⟩ [.int .i64 s.tok.kind, .int .i64 s.tok.rule, .int .i64 s.tok.fr, .int .i64 s.tok.at', .int .i64 s.tok.to, .int .i64 s.tok.mode] := heap_cells (hg.own (ps, .cells [vm, vd, va, .int .i64 s.at0, .int .i64 s.md0, .int .i64 s.mode, .int .i64 s.fr, .int .i64 s.nx, .int .i64 s.st, .int .i64 s.rule, .int .i64 s.to, .int .i64 s.tok.kind, .int .i64 s.tok.rule, .int .i64 s.tok.fr, .int .i64 s.tok.at', .int .i64 s.tok.to, .int .i64 s.tok.mode, .int .i64 s.reads].toArray 157 (0, 0)) (by simp [scF])) rfl
  clear hg
  have hg := Goes.refl w
  have r1 : ∀ {w' Fs}, Goes w [] Fs w' → Cells w' ⟨ps, 11, none⟩ [.int .i64 s.tok.kind, .int .i64 s.tok.rule, .int .i64 s.tok.fr, .int .i64 s.tok.at', .int .i64 s.tok.to, .int .i64 s.tok.mode] := fun h => h.cells0 hcs
  have e1 := eqL_tok s.tok Tok.none
  simp only [Tok.enc, Tok.none] at e1
  refine enter Tryz.func98 rfl (by simp only [Tryz.ntmps98, List.length_cons, List.length_nil, Nat.reduceAdd, Nat.reduceSub, List.replicate_succ, List.replicate_zero, List.cons_append, List.nil_append]; exact rfl) ?_
  repeat' (first | refine zN ?_ | (refine WC.quietG hg ?_; clear hg) | ((with_reducible refine WQ.nilG ?_); intro w hg) | (refine zB ?_; clear hg; intro b w hg; refine WO.fr ?_) | (refine zW ?_; clear hg; intro w hg; refine WO.fr ?_) | (refine op_pureB hg ?_; clear hg; intro w hg c hc; cases c <;> refine WO.fr ?_))
  exact ret1 rfl ⟨rfl, hg.drop⟩

set_option maxHeartbeats 1000000 in
theorem sbegin_spec (a m : Int) (hL : LexAt W [vm, vd, va] L) (hok : LexOK L) (hm : 0 ≤ m ∧ m < L.modes.length) (hg : Goes W [] (scF ps vm vd va s :: Fs) w) :
    Calls Tryz.prog 95 #[.pointer (some ⟨ps, 0, none⟩), .agg [.int .i64 a, .int .i64 m].toArray] w fun e w' => (∃ v, e = .returned v) ∧ Goes W [] (scF ps vm vd va { s with mode := m, fr := a, nx := a, st := (L.dfa m).start, rule := -1, to := a } :: Fs) w' := by
  obtain ⟨_, _, _, e, hM, hD, hA⟩ := hL
  obtain ⟨rfl, rfl, rfl⟩ : vm = _ ∧ vd = _ ∧ va = _ := by simpa using e
  obtain ⟨bd, kd, cd, vc, vn, vt, rfl, hcs, _⟩ := dfas_at hD hok hm
  have hd1 := hok.d1
  simp only [scF] at hg ⊢
  refine enter Tryz.func95 rfl (by simp only [Tryz.ntmps95, List.length_cons, List.length_nil, Nat.reduceAdd, Nat.reduceSub, List.replicate_succ, List.replicate_zero, List.cons_append, List.nil_append]; exact rfl) ?_
  repeat' (first | refine zN ?_ | (refine WC.quietG hg ?_; clear hg) | ((with_reducible refine WQ.nilG ?_); intro w hg) | (refine zB ?_; clear hg; intro b w hg; refine WO.fr ?_) | (refine zW ?_; clear hg; intro w hg; refine WO.fr ?_) | (refine op_pureB hg ?_; clear hg; intro w hg c hc; cases c <;> refine WO.fr ?_))
  have s1 : ∀ {w : World}, (w.heap[ps]? = some (.cells [vm, .slice (some ⟨bd, kd, none⟩) L.dfas.length cd, va, .int .i64 s.at0, .int .i64 s.md0, .int .i64 m, .int .i64 s.fr, .int .i64 s.nx, .int .i64 s.st, .int .i64 s.rule, .int .i64 s.to, .int .i64 s.tok.kind, .int .i64 s.tok.rule, .int .i64 s.tok.fr, .int .i64 s.tok.at', .int .i64 s.tok.to, .int .i64 s.tok.mode, .int .i64 s.reads].toArray 157 (0, 0)) ∧ w.heap[b]? = some (.cells [.int .i64 a, .int .i64 m].toArray 69 (0, 0)) ∧ Goes W [] [] w) → w.cell? ⟨ps, 1, none⟩ = some (.slice (some ⟨bd, kd, none⟩) L.dfas.length cd) := fun h => heap_cell h.1 rfl
  have s2 : ∀ {w : World}, (w.heap[ps]? = some (.cells [vm, .slice (some ⟨bd, kd, none⟩) L.dfas.length cd, va, .int .i64 s.at0, .int .i64 s.md0, .int .i64 m, .int .i64 s.fr, .int .i64 s.nx, .int .i64 s.st, .int .i64 s.rule, .int .i64 s.to, .int .i64 s.tok.kind, .int .i64 s.tok.rule, .int .i64 s.tok.fr, .int .i64 s.tok.at', .int .i64 s.tok.to, .int .i64 s.tok.mode, .int .i64 s.reads].toArray 157 (0, 0)) ∧ w.heap[b]? = some (.cells [.int .i64 a, .int .i64 m].toArray 69 (0, 0)) ∧ Goes W [] [] w) → w.cell? ⟨b, 0, none⟩ = some (.int .i64 a) := fun h => heap_cell h.2.1 rfl
  have s3 : ∀ {w : World}, (w.heap[ps]? = some (.cells [vm, .slice (some ⟨bd, kd, none⟩) L.dfas.length cd, va, .int .i64 s.at0, .int .i64 s.md0, .int .i64 m, .int .i64 s.fr, .int .i64 s.nx, .int .i64 s.st, .int .i64 s.rule, .int .i64 s.to, .int .i64 s.tok.kind, .int .i64 s.tok.rule, .int .i64 s.tok.fr, .int .i64 s.tok.at', .int .i64 s.tok.to, .int .i64 s.tok.mode, .int .i64 s.reads].toArray 157 (0, 0)) ∧ w.heap[b]? = some (.cells [.int .i64 a, .int .i64 m].toArray 69 (0, 0)) ∧ Goes W [] [] w) → w.cell? ⟨b, 1, none⟩ = some (.int .i64 m) := fun h => heap_cell h.2.1 rfl
  have s4 : ∀ {w : World}, (w.heap[ps]? = some (.cells [vm, .slice (some ⟨bd, kd, none⟩) L.dfas.length cd, va, .int .i64 s.at0, .int .i64 s.md0, .int .i64 m, .int .i64 s.fr, .int .i64 s.nx, .int .i64 s.st, .int .i64 s.rule, .int .i64 s.to, .int .i64 s.tok.kind, .int .i64 s.tok.rule, .int .i64 s.tok.fr, .int .i64 s.tok.at', .int .i64 s.tok.to, .int .i64 s.tok.mode, .int .i64 s.reads].toArray 157 (0, 0)) ∧ w.heap[b]? = some (.cells [.int .i64 a, .int .i64 m].toArray 69 (0, 0)) ∧ Goes W [] [] w) → w.cell? ⟨bd, kd + m.toNat * 5 + 4, none⟩ = some (.int .i64 (L.dfa m).start) := fun h => h.2.2.cellOld0 (hcs.get rfl)
  refine WC.drawn (fun w => w.heap[ps]? = some (.cells [vm, .slice (some ⟨bd, kd, none⟩) L.dfas.length cd, va, .int .i64 s.at0, .int .i64 s.md0, .int .i64 m, .int .i64 s.fr, .int .i64 s.nx, .int .i64 s.st, .int .i64 s.rule, .int .i64 s.to, .int .i64 s.tok.kind, .int .i64 s.tok.rule, .int .i64 s.tok.fr, .int .i64 s.tok.at', .int .i64 s.tok.to, .int .i64 s.tok.mode, .int .i64 s.reads].toArray 157 (0, 0)) ∧ w.heap[b]? = some (.cells [.int .i64 a, .int .i64 m].toArray 69 (0, 0)) ∧ Goes W [] [] w) [20] hg ?_
  clear hg
  intro w hg
  have hS : (fun w => w.heap[ps]? = some (.cells [vm, .slice (some ⟨bd, kd, none⟩) L.dfas.length cd, va, .int .i64 s.at0, .int .i64 s.md0, .int .i64 m, .int .i64 s.fr, .int .i64 s.nx, .int .i64 s.st, .int .i64 s.rule, .int .i64 s.to, .int .i64 s.tok.kind, .int .i64 s.tok.rule, .int .i64 s.tok.fr, .int .i64 s.tok.at', .int .i64 s.tok.to, .int .i64 s.tok.mode, .int .i64 s.reads].toArray 157 (0, 0)) ∧ w.heap[b]? = some (.cells [.int .i64 a, .int .i64 m].toArray 69 (0, 0)) ∧ Goes W [] [] w) w := ⟨hg.own (ps, .cells [vm, .slice (some ⟨bd, kd, none⟩) L.dfas.length cd, va, .int .i64 s.at0, .int .i64 s.md0, .int .i64 m, .int .i64 s.fr, .int .i64 s.nx, .int .i64 s.st, .int .i64 s.rule, .int .i64 s.to, .int .i64 s.tok.kind, .int .i64 s.tok.rule, .int .i64 s.tok.fr, .int .i64 s.tok.at', .int .i64 s.tok.to, .int .i64 s.tok.mode, .int .i64 s.reads].toArray 157 (0, 0)) (by simp), hg.own (b, .cells [.int .i64 a, .int .i64 m].toArray 69 (0, 0)) (by simp), hg.drop⟩
  refine WA.passM 0 hS ?_
  refine WA.passM 1 hS ?_
  refine WA.passM 3 hS ?_
  refine WA.passM 5 hS ?_
  refine WA.passM 6 hS ?_
  refine WA.passM 7 hS ?_
  refine WA.passM 8 hS ?_
  refine WA.passM 10 hS ?_
  refine WA.passM 15 hS ?_
  refine WA.passM 2 hS ?_
  refine WA.passM 4 hS ?_
  refine WA.passM 9 hS ?_
  refine WA.passM 11 hS ?_
  refine WA.passM 12 hS ?_
  refine WA.passM 13 hS ?_
  refine WA.passM 14 hS ?_
  refine WA.passM 16 hS ?_
  refine WA.passM 17 hS ?_
  refine WA.passM 18 hS ?_
  refine WA.passM 19 hS ?_
  refine WA.only 20 ?_
  refine op_storeA hg ?_
  clear hg hS
  intro w hg
  simp only [over, List.take_zero, List.take_succ_cons, List.drop_zero, List.drop_succ_cons, List.nil_append, List.cons_append, List.append_nil, List.length_cons, List.length_nil, Nat.zero_add, Nat.reduceAdd] at hg
  refine WO.fr ?_
  refine WO.nilL ?_
  refine WA.nil ?_
  repeat' (first | refine zN ?_ | (refine WC.quietG hg ?_; clear hg) | ((with_reducible refine WQ.nilG ?_); intro w hg) | (refine zB ?_; clear hg; intro b w hg; refine WO.fr ?_) | (refine zW ?_; clear hg; intro w hg; refine WO.fr ?_) | (refine op_pureB hg ?_; clear hg; intro w hg c hc; cases c <;> refine WO.fr ?_))
  exact end0 rfl ⟨⟨_, rfl⟩, (hg.front 1).tail1⟩

def openB (L : PLex) (s : SC) : Bool := decide (s.nx = s.fr) || (decide (0 ≤ s.st) && decide (0 ≤ maxL (((L.dfa s.mode).next).getD s.st.toNat [])))
/-- A state's row, as it lies. -/
theorem row_at {vn : Value} {n : Nat} {d : PDfa} (hN : NestAt RowAt W 1 vn d.next) (hd : DfaOK n d) {st : Int} (h : 0 ≤ st ∧ st < d.next.length) :
    ∃ bn kn cn au cu, vn = .slice (some ⟨bn, kn, none⟩) d.next.length cn ∧ W.cell? ⟨bn, kn + st.toNat, none⟩ = some (.slice au (d.next.getD st.toNat []).length cu) ∧ IntsAt W (.slice au (d.next.getD st.toNat []).length cu) (d.next.getD st.toNat []) := by
  have hi : st.toNat < d.next.length := by omega
  obtain ⟨bn, kn, cn, row, e1, _, hrow, u, rfl, hU⟩ := hN.get hi
  rw [getRow hi] at hU
  obtain ⟨au, cu, rfl, _⟩ := hU.slice
  rw [Nat.mul_one] at hrow
  exact ⟨bn, kn, cn, au, cu, e1, hrow 0 _ rfl, hU⟩
set_option maxHeartbeats 1000000 in
theorem sopen_spec (hL : LexAt W [vm, vd, va] L) (hok : LexOK L) (hs : SCOK L s) (hg0 : Goes W [] (scF ps vm vd va s :: Fs) w) :
    Calls Tryz.prog 99 #[.pointer (some ⟨ps, 0, none⟩)] w fun e w' => e = .returned (.bool (openB L s)) ∧ Goes w [] [] w' := by
  obtain ⟨_, _, _, e, hM, hD, hA⟩ := hL
  obtain ⟨rfl, rfl, rfl⟩ : vm = _ ∧ vd = _ ∧ va = _ := by simpa using e
  have ho := hg0.own (ps, .cells [vm, vd, va, .int .i64 s.at0, .int .i64 s.md0, .int .i64 s.mode, .int .i64 s.fr, .int .i64 s.nx, .int .i64 s.st, .int .i64 s.rule, .int .i64 s.to, .int .i64 s.tok.kind, .int .i64 s.tok.rule, .int .i64 s.tok.fr, .int .i64 s.tok.at', .int .i64 s.tok.to, .int .i64 s.tok.mode, .int .i64 s.reads].toArray 157 (0, 0)) (by simp [scF])
  have hm := hs.m
  obtain ⟨bd, kd, cd, vc, vn, vt, rfl, hcs, _, hN, _⟩ := dfas_at hD hok hm
  have hd1 := hok.d1
  have hdok := dfa_ok hok hm
  have hst := hs.st
  have hg := Goes.refl w
  have c1 : ∀ {w' Fs}, Goes w [] Fs w' → w'.cell? ⟨ps, 1, none⟩ = some (.slice (some ⟨bd, kd, none⟩) L.dfas.length cd) := fun h => h.cellOld0 (heap_cell ho rfl)
  have c2 : ∀ {w' Fs}, Goes w [] Fs w' → w'.cell? ⟨ps, 5, none⟩ = some (.int .i64 s.mode) := fun h => h.cellOld0 (heap_cell ho rfl)
  have c3 : ∀ {w' Fs}, Goes w [] Fs w' → w'.cell? ⟨ps, 6, none⟩ = some (.int .i64 s.fr) := fun h => h.cellOld0 (heap_cell ho rfl)
  have c4 : ∀ {w' Fs}, Goes w [] Fs w' → w'.cell? ⟨ps, 7, none⟩ = some (.int .i64 s.nx) := fun h => h.cellOld0 (heap_cell ho rfl)
  have c5 : ∀ {w' Fs}, Goes w [] Fs w' → w'.cell? ⟨ps, 8, none⟩ = some (.int .i64 s.st) := fun h => h.cellOld0 (heap_cell ho rfl)
  unfold openB
  by_cases h1 : s.nx = s.fr
  · rw [decide_eq_true h1]
    refine enter Tryz.func99 rfl (by simp only [Tryz.ntmps99, List.length_cons, List.length_nil, Nat.reduceAdd, Nat.reduceSub, List.replicate_succ, List.replicate_zero, List.cons_append, List.nil_append]; exact rfl) ?_
    repeat' (first | refine zN ?_ | (refine WC.quietG hg ?_; clear hg) | ((with_reducible refine WQ.nilG ?_); intro w hg) | (refine zB ?_; clear hg; intro b w hg; refine WO.fr ?_) | (refine zW ?_; clear hg; intro w hg; refine WO.fr ?_) | (refine op_pureB hg ?_; clear hg; intro w hg c hc; cases c <;> refine WO.fr ?_))
    exact ret1 rfl ⟨rfl, hg.drop⟩
  rw [decide_eq_false h1]
  by_cases h2 : 0 ≤ s.st
  rotate_left
  · rw [decide_eq_false h2]
    refine enter Tryz.func99 rfl (by simp only [Tryz.ntmps99, List.length_cons, List.length_nil, Nat.reduceAdd, Nat.reduceSub, List.replicate_succ, List.replicate_zero, List.cons_append, List.nil_append]; exact rfl) ?_
    repeat' (first | refine zN ?_ | (refine WC.quietG hg ?_; clear hg) | ((with_reducible refine WQ.nilG ?_); intro w hg) | (refine zB ?_; clear hg; intro b w hg; refine WO.fr ?_) | (refine zW ?_; clear hg; intro w hg; refine WO.fr ?_) | (refine op_pureB hg ?_; clear hg; intro w hg c hc; cases c <;> refine WO.fr ?_))
    exact ret1 rfl ⟨rfl, hg.drop⟩
  rw [decide_eq_true h2]
  obtain ⟨bn, kn, cn, au, cu, rfl, hrc, hU⟩ := row_at hN hdok ⟨h2, hst.2⟩
  have hr1 := hdok.r1 s.st.toNat (by omega)
  have hw := hdok.width
  generalize (L.dfa s.mode).next.getD s.st.toNat [] = row at hrc hU hr1
  have c6 : ∀ {w' Fs}, Goes w [] Fs w' → w'.cell? ⟨bd, kd + s.mode.toNat * 5 + 2, none⟩ = some (.slice (some ⟨bn, kn, none⟩) (L.dfa s.mode).next.length cn) := fun h => h.cellOld0 (hg0.cellOld0 (hcs.get rfl))
  have c7 : ∀ {w' Fs}, Goes w [] Fs w' → w'.cell? ⟨bn, kn + s.st.toNat, none⟩ = some (.slice au row.length cu) := fun h => h.cellOld0 (hg0.cellOld0 hrc)
  have p1 : ∀ {w' Fs}, Goes w [] Fs w' → Calls Tryz.prog 113 #[.slice au row.length cu] w' _ := fun h => MaxD_spec _ _ _ ((hU.goes hg0).goes h) (by omega) (by omega)
  by_cases h3 : 0 ≤ maxL row
  · rw [decide_eq_true h3]
    refine enter Tryz.func99 rfl (by simp only [Tryz.ntmps99, List.length_cons, List.length_nil, Nat.reduceAdd, Nat.reduceSub, List.replicate_succ, List.replicate_zero, List.cons_append, List.nil_append]; exact rfl) ?_
    repeat' (first | refine zN ?_ | (refine WC.quietG hg ?_; clear hg) | ((with_reducible refine WQ.nilG ?_); intro w hg) | (refine zB ?_; clear hg; intro b w hg; refine WO.fr ?_) | (refine zW ?_; clear hg; intro w hg; refine WO.fr ?_) | (refine op_pureB hg ?_; clear hg; intro w hg c hc; cases c <;> refine WO.fr ?_))
    exact ret1 rfl ⟨rfl, hg.drop⟩
  · rw [decide_eq_false h3]
    refine enter Tryz.func99 rfl (by simp only [Tryz.ntmps99, List.length_cons, List.length_nil, Nat.reduceAdd, Nat.reduceSub, List.replicate_succ, List.replicate_zero, List.cons_append, List.nil_append]; exact rfl) ?_
    repeat' (first | refine zN ?_ | (refine WC.quietG hg ?_; clear hg) | ((with_reducible refine WQ.nilG ?_); intro w hg) | (refine zB ?_; clear hg; intro b w hg; refine WO.fr ?_) | (refine zW ?_; clear hg; intro w hg; refine WO.fr ?_) | (refine op_pureB hg ?_; clear hg; intro w hg c hc; cases c <;> refine WO.fr ?_))
    exact ret1 rfl ⟨rfl, hg.drop⟩

def SC.ended (s : SC) : SC := { s with tok := ⟨3, -1, s.at0, s.fr, s.fr, s.mode⟩ }
set_option maxHeartbeats 1000000 in
theorem send_spec (hg : Goes W [] (scF ps vm vd va s :: Fs) w) : Calls Tryz.prog 128 #[.pointer (some ⟨ps, 0, none⟩)] w fun e w' => (∃ v, e = .returned v) ∧ Goes W [] (scF ps vm vd va s.ended :: Fs) w' := by
  simp only [scF] at hg ⊢
  refine enter Tryz.func128 rfl (by simp only [Tryz.ntmps128, List.length_cons, List.length_nil, Nat.reduceAdd, Nat.reduceSub, List.replicate_succ, List.replicate_zero, List.cons_append, List.nil_append]; exact rfl) ?_
  repeat' (first | refine zN ?_ | ((with_reducible refine WQ.nilG ?_); intro w hg) | (refine zB ?_; clear hg; intro b w hg; refine WO.fr ?_) | (refine zW ?_; clear hg; intro w hg; refine WO.fr ?_) | (refine op_pureB hg ?_; clear hg; intro w hg c hc; cases c <;> refine WO.fr ?_))
  have s1 : ∀ {w : World}, (w.heap[ps]? = some (.cells [vm, vd, va, .int .i64 s.at0, .int .i64 s.md0, .int .i64 s.mode, .int .i64 s.fr, .int .i64 s.nx, .int .i64 s.st, .int .i64 s.rule, .int .i64 s.to, .int .i64 s.tok.kind, .int .i64 s.tok.rule, .int .i64 s.tok.fr, .int .i64 s.tok.at', .int .i64 s.tok.to, .int .i64 s.tok.mode, .int .i64 s.reads].toArray 157 (0, 0))) → w.cell? ⟨ps, 3, none⟩ = some (.int .i64 s.at0) := fun h => heap_cell h rfl
  have s2 : ∀ {w : World}, (w.heap[ps]? = some (.cells [vm, vd, va, .int .i64 s.at0, .int .i64 s.md0, .int .i64 s.mode, .int .i64 s.fr, .int .i64 s.nx, .int .i64 s.st, .int .i64 s.rule, .int .i64 s.to, .int .i64 s.tok.kind, .int .i64 s.tok.rule, .int .i64 s.tok.fr, .int .i64 s.tok.at', .int .i64 s.tok.to, .int .i64 s.tok.mode, .int .i64 s.reads].toArray 157 (0, 0))) → w.cell? ⟨ps, 6, none⟩ = some (.int .i64 s.fr) := fun h => heap_cell h rfl
  have s3 : ∀ {w : World}, (w.heap[ps]? = some (.cells [vm, vd, va, .int .i64 s.at0, .int .i64 s.md0, .int .i64 s.mode, .int .i64 s.fr, .int .i64 s.nx, .int .i64 s.st, .int .i64 s.rule, .int .i64 s.to, .int .i64 s.tok.kind, .int .i64 s.tok.rule, .int .i64 s.tok.fr, .int .i64 s.tok.at', .int .i64 s.tok.to, .int .i64 s.tok.mode, .int .i64 s.reads].toArray 157 (0, 0))) → w.cell? ⟨ps, 5, none⟩ = some (.int .i64 s.mode) := fun h => heap_cell h rfl
  refine WC.drawn (fun w => w.heap[ps]? = some (.cells [vm, vd, va, .int .i64 s.at0, .int .i64 s.md0, .int .i64 s.mode, .int .i64 s.fr, .int .i64 s.nx, .int .i64 s.st, .int .i64 s.rule, .int .i64 s.to, .int .i64 s.tok.kind, .int .i64 s.tok.rule, .int .i64 s.tok.fr, .int .i64 s.tok.at', .int .i64 s.tok.to, .int .i64 s.tok.mode, .int .i64 s.reads].toArray 157 (0, 0))) [23] hg ?_
  clear hg
  intro w hg
  have hS : (fun w => w.heap[ps]? = some (.cells [vm, vd, va, .int .i64 s.at0, .int .i64 s.md0, .int .i64 s.mode, .int .i64 s.fr, .int .i64 s.nx, .int .i64 s.st, .int .i64 s.rule, .int .i64 s.to, .int .i64 s.tok.kind, .int .i64 s.tok.rule, .int .i64 s.tok.fr, .int .i64 s.tok.at', .int .i64 s.tok.to, .int .i64 s.tok.mode, .int .i64 s.reads].toArray 157 (0, 0))) w := hg.own (ps, .cells [vm, vd, va, .int .i64 s.at0, .int .i64 s.md0, .int .i64 s.mode, .int .i64 s.fr, .int .i64 s.nx, .int .i64 s.st, .int .i64 s.rule, .int .i64 s.to, .int .i64 s.tok.kind, .int .i64 s.tok.rule, .int .i64 s.tok.fr, .int .i64 s.tok.at', .int .i64 s.tok.to, .int .i64 s.tok.mode, .int .i64 s.reads].toArray 157 (0, 0)) (by simp)
  refine WA.passM 0 hS ?_
  refine WA.passM 1 hS ?_
  refine WA.passM 2 hS ?_
  refine WA.passM 3 hS ?_
  refine WA.passM 4 hS ?_
  refine WA.passM 6 hS ?_
  refine WA.passM 7 hS ?_
  refine WA.passM 8 hS ?_
  refine WA.passM 9 hS ?_
  refine WA.passM 11 hS ?_
  refine WA.passM 12 hS ?_
  refine WA.passM 13 hS ?_
  refine WA.passM 14 hS ?_
  refine WA.passM 16 hS ?_
  refine WA.passM 17 hS ?_
  refine WA.passM 18 hS ?_
  refine WA.passM 5 hS ?_
  refine WA.passM 10 hS ?_
  refine WA.passM 15 hS ?_
  refine WA.passM 19 hS ?_
  refine WA.passM 20 hS ?_
  refine WA.passM 21 hS ?_
  refine WA.passM 22 hS ?_
  refine WA.only 23 ?_
  refine op_stA hg ?_
  clear hg hS
  intro w hg
  refine WO.fr ?_
  refine WO.nilL ?_
  refine WA.nil ?_
  repeat' (first | refine zN ?_ | (refine WC.quietG hg ?_; clear hg) | ((with_reducible refine WQ.nilG ?_); intro w hg) | (refine zB ?_; clear hg; intro b w hg; refine WO.fr ?_) | (refine zW ?_; clear hg; intro w hg; refine WO.fr ?_) | (refine op_pureB hg ?_; clear hg; intro w hg c hc; cases c <;> refine WO.fr ?_))
  exact end0 rfl ⟨⟨_, rfl⟩, hg⟩
end
end Go.Proofs.YtkdidefghbeabaaGreat
