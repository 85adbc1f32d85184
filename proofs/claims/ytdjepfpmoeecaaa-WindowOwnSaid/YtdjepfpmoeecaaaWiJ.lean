/- The window: Copy. -/
import Derived.Test.YtdjepfpmoeecaaaWiI
import Derived.Test.YtdjepfpmoeecaaaWiM
namespace Go.Proofs.Ytdjepfpmoeecaaa
open Go Go.RowKit
set_option maxRecDepth 10000
set_option linter.unusedSimpArgs false
set_option linter.unusedVariables false
theorem Goes.six {w0 w : World} {M : List Nat} {a b c d e f : Frag} (hg : Goes w0 M [a, b, c, d, e, f] w) : Goes w0 M [a ++ (b ++ c), d ++ (e ++ f)] w := hg.perm (by simp)
section
variable {pw : Nat} {p : Prm} {s : WS} {f : Frag} {w0 : World}
set_option maxHeartbeats 4000000 in
theorem wCopy_spec (hF : WinF pw p s f) (hO : Owns w0 f) (hW : WOK p.bytes s) : Calls Try.prog 39 #[.pointer (some ⟨pw, 0, none⟩)] w0 fun e w' => ∃ px f', e = .returned (.pointer (some ⟨px, 0, none⟩)) ∧ WinF px p s f' ∧ Goes w0 (keys f) [f', f] w' := by
  have hF0 := hF
  obtain ⟨pr, pc, n, bl, m, h, fr, fc, rfl, hn, h1, h2, h3, h4⟩ := hF
  have hb2 := hW.b2; have hs4 := hW.h4
  have hhl := h4.len
  have hg := hO.goes
  have p1 : ∀ {w}, Goes w0 (keys ([(pw, .cells [.pointer (some ⟨pr, 0, none⟩), .pointer (some ⟨pc, 0, none⟩), .int .i64 p.bytes, .int .i64 p.trail, .int .i64 p.marks, .int .i64 p.ahead, .int .i64 p.tickets, .int .i64 p.retries, .int .i64 p.step, .int .i64 (s.low : Nat)].toArray 82 (0, 0))] ++ (fr ++ fc))) [[(pw, .cells [.pointer (some ⟨pr, 0, none⟩), .pointer (some ⟨pc, 0, none⟩), .int .i64 p.bytes, .int .i64 p.trail, .int .i64 p.marks, .int .i64 p.ahead, .int .i64 p.tickets, .int .i64 p.retries, .int .i64 p.step, .int .i64 (s.low : Nat)].toArray 82 (0, 0))] ++ (fr ++ fc)] w → Calls Try.prog 50 #[.pointer (some ⟨pw, 0, none⟩)] w _ := fun h => wmade_spec hF0 h.owns1
  refine enter Try.func39 rfl (by simp only [Try.ntmps39, List.length_cons, List.length_nil, Nat.reduceAdd, Nat.reduceSub, List.replicate_succ, List.replicate_zero, List.cons_append, List.nil_append]; exact rfl) ?_
  repeat' (first
    | with_reducible refine QX.next ?_ | with_reducible refine WC.seq ?_ | with_reducible refine WC.region ?_ | with_reducible refine WC.block ?_ | with_reducible refine QX.bnorm ?_ | with_reducible refine QX.bret ?_ | with_reducible refine QX.ret ?_ | with_reducible refine QX.exit ?_ | with_reducible refine QX.bsame ?_ | with_reducible refine QX.bother rfl ?_
    | with_reducible refine WO.nil ?_ | with_reducible refine WC.skip ?_ | with_reducible refine WC.ret ?_ | with_reducible refine WC.exit ?_ | ((with_reducible refine WC.id ?_); first | refine WC.condT rfl ?_ | refine WC.condF rfl ?_)
    | ((with_reducible refine WQ.cid ?_); first | refine WQ.xG ?_ | refine WQ.pure ?_)
    | ((with_reducible refine WQ.gid ?_); first | refine WQ.on rfl ?_ | refine WQ.offN rfl rfl ?_)
    | ((with_reducible refine WO.cid ?_); first
      | refine WO.x ?_ | (refine op_alloc hg ?_; clear hg; intro b w hg; refine WO.fr ?_) | (refine op_boxA hg ?_; clear hg; intro b w hg; refine WO.fr ?_) | (refine op_box1 hg ?_; clear hg; intro b w hg; refine WO.fr ?_)
      | (refine op_store hg ?_; clear hg; intro w hg; refine WO.fr ?_; try simp only [List.set_cons_succ, List.set_cons_zero] at hg)
      | (refine op_storeA hg ?_; clear hg; intro w hg; refine WO.fr ?_; try simp only [over, List.take_zero, List.take_succ_cons, List.drop_zero, List.drop_succ_cons, List.nil_append, List.cons_append, List.append_nil, List.length_cons, List.length_nil, Nat.zero_add, Nat.reduceAdd, splice, cellsL] at hg)
      | (refine op_pure hg ?_; clear hg; intro w hg; refine WO.fr ?_) | (refine op_pureB hg ?_; clear hg; intro w hg c hc; cases c <;> refine WO.fr ?_))
    | ((with_reducible refine WO.gid ?_); first | refine WO.on rfl ?_ | refine WO.offN rfl rfl ?_))
  have s1 : ∀ {w : World}, (w.heap[pw]? = some (.cells [.pointer (some ⟨pr, 0, none⟩), .pointer (some ⟨pc, 0, none⟩), .int .i64 p.bytes, .int .i64 p.trail, .int .i64 p.marks, .int .i64 p.ahead, .int .i64 p.tickets, .int .i64 p.retries, .int .i64 p.step, .int .i64 (s.low : Nat)].toArray 82 (0, 0))) → w.cell? ⟨pw, 1, none⟩ = some (.pointer (some ⟨pc, 0, none⟩)) := fun h => heap_cell h rfl
  have s2 : ∀ {w : World}, (w.heap[pw]? = some (.cells [.pointer (some ⟨pr, 0, none⟩), .pointer (some ⟨pc, 0, none⟩), .int .i64 p.bytes, .int .i64 p.trail, .int .i64 p.marks, .int .i64 p.ahead, .int .i64 p.tickets, .int .i64 p.retries, .int .i64 p.step, .int .i64 (s.low : Nat)].toArray 82 (0, 0))) → w.cell? ⟨pw, 0, none⟩ = some (.pointer (some ⟨pr, 0, none⟩)) := fun h => heap_cell h rfl
  have s3 : ∀ {w : World}, (w.heap[pw]? = some (.cells [.pointer (some ⟨pr, 0, none⟩), .pointer (some ⟨pc, 0, none⟩), .int .i64 p.bytes, .int .i64 p.trail, .int .i64 p.marks, .int .i64 p.ahead, .int .i64 p.tickets, .int .i64 p.retries, .int .i64 p.step, .int .i64 (s.low : Nat)].toArray 82 (0, 0))) → w.cell? ⟨pw, 9, none⟩ = some (.int .i64 s.low) := fun h => heap_cell h rfl
  have t1 : ∀ {w : World}, (w.heap[pw]? = some (.cells [.pointer (some ⟨pr, 0, none⟩), .pointer (some ⟨pc, 0, none⟩), .int .i64 p.bytes, .int .i64 p.trail, .int .i64 p.marks, .int .i64 p.ahead, .int .i64 p.tickets, .int .i64 p.retries, .int .i64 p.step, .int .i64 (s.low : Nat)].toArray 82 (0, 0))) → Cells w ⟨pw, 2, none⟩ [.int .i64 p.bytes, .int .i64 p.trail, .int .i64 p.marks, .int .i64 p.ahead, .int .i64 p.tickets, .int .i64 p.retries, .int .i64 p.step] := fun h => heap_cells h rfl
  refine WC.drawn (fun w => w.heap[pw]? = some (.cells [.pointer (some ⟨pr, 0, none⟩), .pointer (some ⟨pc, 0, none⟩), .int .i64 p.bytes, .int .i64 p.trail, .int .i64 p.marks, .int .i64 p.ahead, .int .i64 p.tickets, .int .i64 p.retries, .int .i64 p.step, .int .i64 (s.low : Nat)].toArray 82 (0, 0))) [] hg ?_
  clear hg
  intro w hg
  have hS : (fun w => w.heap[pw]? = some (.cells [.pointer (some ⟨pr, 0, none⟩), .pointer (some ⟨pc, 0, none⟩), .int .i64 p.bytes, .int .i64 p.trail, .int .i64 p.marks, .int .i64 p.ahead, .int .i64 p.tickets, .int .i64 p.retries, .int .i64 p.step, .int .i64 (s.low : Nat)].toArray 82 (0, 0))) w := hg.own (pw, .cells [.pointer (some ⟨pr, 0, none⟩), .pointer (some ⟨pc, 0, none⟩), .int .i64 p.bytes, .int .i64 p.trail, .int .i64 p.marks, .int .i64 p.ahead, .int .i64 p.tickets, .int .i64 p.retries, .int .i64 p.step, .int .i64 (s.low : Nat)].toArray 82 (0, 0)) (by simp)
  refine WA.passM 0 hS ?_
  refine WA.passM 1 hS ?_
  refine WA.passM 2 hS ?_
  refine WA.passM 5 hS ?_
  refine WA.passM 6 hS ?_
  refine WA.passM 7 hS ?_
  refine WA.passM 10 hS ?_
  refine WA.passM 11 hS ?_
  refine WA.passM 12 hS ?_
  refine WA.passM 14 hS ?_
  refine WA.passM 15 hS ?_
  refine WA.passM 16 hS ?_
  refine WA.passM 3 hS ?_
  refine WA.passM 8 hS ?_
  refine WA.passM 13 hS ?_
  refine WA.passM 17 hS ?_
  refine WA.only 4 ?_
  refine op_call (rCopy_spec h1 (hg.three.front 1).owns1.1 h2.pos (by omega) h2.len) ?_
  rintro _ w ⟨pr2, fr2, rfl, h1', hg2⟩
  replace hg : Goes w0 _ [fr2, [(pw, .cells [.pointer (some ⟨pr, 0, none⟩), .pointer (some ⟨pc, 0, none⟩), .int .i64 p.bytes, .int .i64 p.trail, .int .i64 p.marks, .int .i64 p.ahead, .int .i64 p.tickets, .int .i64 p.retries, .int .i64 p.step, .int .i64 (s.low : Nat)].toArray 82 (0, 0))] ++ (fr ++ fc)] w := hg.call0 hg2
  replace hg := (hg.front 1).three
  clear hg2 hS
  refine ⟨_, rfl, ?_⟩
  refine WO.fr ?_
  have hS : (fun w => w.heap[pw]? = some (.cells [.pointer (some ⟨pr, 0, none⟩), .pointer (some ⟨pc, 0, none⟩), .int .i64 p.bytes, .int .i64 p.trail, .int .i64 p.marks, .int .i64 p.ahead, .int .i64 p.tickets, .int .i64 p.retries, .int .i64 p.step, .int .i64 (s.low : Nat)].toArray 82 (0, 0))) w := hg.own (pw, .cells [.pointer (some ⟨pr, 0, none⟩), .pointer (some ⟨pc, 0, none⟩), .int .i64 p.bytes, .int .i64 p.trail, .int .i64 p.marks, .int .i64 p.ahead, .int .i64 p.tickets, .int .i64 p.retries, .int .i64 p.step, .int .i64 (s.low : Nat)].toArray 82 (0, 0)) (by simp)
  refine WO.nilA hS ?_
  refine WA.only 9 ?_
  refine op_call (CCopy_spec (hg.front 2).owns1 h3 (by omega)) ?_
  rintro _ w ⟨pc2, fc2, rfl, h3', hg2⟩
  replace hg := (hg.front 2).call1 hg2
  simp only [List.cons_append, List.nil_append] at hg
  clear hg2 hS
  refine ⟨_, rfl, ?_⟩
  refine WO.fr ?_
  have hS : (fun w => w.heap[pw]? = some (.cells [.pointer (some ⟨pr, 0, none⟩), .pointer (some ⟨pc, 0, none⟩), .int .i64 p.bytes, .int .i64 p.trail, .int .i64 p.marks, .int .i64 p.ahead, .int .i64 p.tickets, .int .i64 p.retries, .int .i64 p.step, .int .i64 (s.low : Nat)].toArray 82 (0, 0))) w := hg.own (pw, .cells [.pointer (some ⟨pr, 0, none⟩), .pointer (some ⟨pc, 0, none⟩), .int .i64 p.bytes, .int .i64 p.trail, .int .i64 p.marks, .int .i64 p.ahead, .int .i64 p.tickets, .int .i64 p.retries, .int .i64 p.step, .int .i64 (s.low : Nat)].toArray 82 (0, 0)) (by simp)
  refine WO.nilA hS ?_
  refine WA.passM 18 hS ?_
  refine WA.only 19 ?_
  refine op_boxA hg ?_
  clear hg hS
  intro px w hg
  refine WO.fr ?_
  have hS : (fun w => w.heap[pw]? = some (.cells [.pointer (some ⟨pr, 0, none⟩), .pointer (some ⟨pc, 0, none⟩), .int .i64 p.bytes, .int .i64 p.trail, .int .i64 p.marks, .int .i64 p.ahead, .int .i64 p.tickets, .int .i64 p.retries, .int .i64 p.step, .int .i64 (s.low : Nat)].toArray 82 (0, 0))) w := hg.own (pw, .cells [.pointer (some ⟨pr, 0, none⟩), .pointer (some ⟨pc, 0, none⟩), .int .i64 p.bytes, .int .i64 p.trail, .int .i64 p.marks, .int .i64 p.ahead, .int .i64 p.tickets, .int .i64 p.retries, .int .i64 p.step, .int .i64 (s.low : Nat)].toArray 82 (0, 0)) (by simp)
  refine WO.nilA hS ?_
  refine WA.passM 20 hS ?_
  refine WA.nil ?_
  repeat' (first
    | with_reducible refine QX.next ?_ | with_reducible refine WC.seq ?_ | with_reducible refine WC.region ?_ | with_reducible refine WC.block ?_ | with_reducible refine QX.bnorm ?_ | with_reducible refine QX.bret ?_ | with_reducible refine QX.ret ?_ | with_reducible refine QX.exit ?_ | with_reducible refine QX.bsame ?_ | with_reducible refine QX.bother rfl ?_
    | with_reducible refine WO.nil ?_ | with_reducible refine WC.skip ?_ | with_reducible refine WC.ret ?_ | with_reducible refine WC.exit ?_ | ((with_reducible refine WC.id ?_); first | refine WC.condT rfl ?_ | refine WC.condF rfl ?_)
    | ((with_reducible refine WQ.cid ?_); first | refine WQ.xG ?_ | refine WQ.pure ?_)
    | ((with_reducible refine WQ.gid ?_); first | refine WQ.on rfl ?_ | refine WQ.offN rfl rfl ?_)
    | ((with_reducible refine WO.cid ?_); first
      | refine WO.x ?_ | (refine op_alloc hg ?_; clear hg; intro b w hg; refine WO.fr ?_) | (refine op_boxA hg ?_; clear hg; intro b w hg; refine WO.fr ?_) | (refine op_box1 hg ?_; clear hg; intro b w hg; refine WO.fr ?_)
      | (refine op_store hg ?_; clear hg; intro w hg; refine WO.fr ?_; try simp only [List.set_cons_succ, List.set_cons_zero] at hg)
      | (refine op_storeA hg ?_; clear hg; intro w hg; refine WO.fr ?_; try simp only [over, List.take_zero, List.take_succ_cons, List.drop_zero, List.drop_succ_cons, List.nil_append, List.cons_append, List.append_nil, List.length_cons, List.length_nil, Nat.zero_add, Nat.reduceAdd, splice, cellsL] at hg)
      | (refine op_pure hg ?_; clear hg; intro w hg; refine WO.fr ?_) | (refine op_pureB hg ?_; clear hg; intro w hg c hc; cases c <;> refine WO.fr ?_))
    | ((with_reducible refine WO.gid ?_); first | refine WO.on rfl ?_ | refine WO.offN rfl rfl ?_))
  exact ret1 rfl ⟨px, _, rfl, ⟨pr2, pc2, n, bl, m, h, fr2, fc2, rfl, hn, h1', h2, h3', h4⟩, ((((((hg.front 2).front 4).front 4).front 4).front 5).front 5).six⟩
end
end Go.Proofs.Ytdjepfpmoeecaaa
