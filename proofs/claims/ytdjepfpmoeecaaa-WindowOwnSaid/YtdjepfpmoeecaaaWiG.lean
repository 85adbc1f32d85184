/- The window: Make, Feed. -/
import Derived.Test.YtdjepfpmoeecaaaWiF
namespace Go.Proofs.Ytdjepfpmoeecaaa
open Go Go.RowKit
set_option maxRecDepth 10000
set_option linter.unusedSimpArgs false
set_option linter.unusedVariables false

theorem fits_iff {B : Int} {s : WS} {n : Int} : s.fits B n = true ↔ (n ≤ B - ((s.all.length : Int) - s.fl)) ∨ s.fl = s.low := by simp [WS.fits]
section
variable {pw : Nat} {p : Prm} {s : WS} {f : Frag} {w0 : World}
set_option maxHeartbeats 4000000 in
theorem wMake_spec (k : Int) (hF : WinF pw p s f) (hO : Owns w0 f) (hK : WOK p.bytes s) (hal : s.all.length ≤ 100000) : Calls Try.prog 51 #[.pointer (some ⟨pw, 0, none⟩), .int .i64 k] w0 fun e w' => ∃ f', e = .returned (.bool (s.fits p.bytes k)) ∧ WinF pw p (s.make p.bytes p.step k) f' ∧ Goes w0 (keys f) [f'] w' := by
  have hF0 := hF
  have hs1 := hK.h1; have hs2 := hK.h2; have hs3 := hK.h3; have hs4 := hK.h4; have hb1 := hK.b1; have hb2 := hK.b2
  have p1 : ∀ {w}, Goes w0 (keys f) [f] w → Calls Try.prog 50 #[.pointer (some ⟨pw, 0, none⟩)] w _ := fun h => wmade_spec hF0 h.owns1
  have p2 : ∀ {w}, Goes w0 (keys f) [f] w → Calls Try.prog 31 #[.pointer (some ⟨pw, 0, none⟩)] w _ := fun h => wFloor_spec hF0 h.owns1
  obtain ⟨pr, pc, n, bl, m, h, fr, fc, rfl, hn, h1, h2, h3, h4⟩ := hF
  have hg := hO.goes
  have c1 : ∀ {w : World}, Goes w0 (keys ([(pw, .cells [.pointer (some ⟨pr, 0, none⟩), .pointer (some ⟨pc, 0, none⟩), .int .i64 p.bytes, .int .i64 p.trail, .int .i64 p.marks, .int .i64 p.ahead, .int .i64 p.tickets, .int .i64 p.retries, .int .i64 p.step, .int .i64 (s.low : Nat)].toArray 82 (0, 0))] ++ (fr ++ fc))) [[(pw, .cells [.pointer (some ⟨pr, 0, none⟩), .pointer (some ⟨pc, 0, none⟩), .int .i64 p.bytes, .int .i64 p.trail, .int .i64 p.marks, .int .i64 p.ahead, .int .i64 p.tickets, .int .i64 p.retries, .int .i64 p.step, .int .i64 (s.low : Nat)].toArray 82 (0, 0))] ++ (fr ++ fc)] w → w.cell? ⟨pw, 9, none⟩ = some (.int .i64 s.low) := fun h => heap_cell (h.own (pw, .cells [.pointer (some ⟨pr, 0, none⟩), .pointer (some ⟨pc, 0, none⟩), .int .i64 p.bytes, .int .i64 p.trail, .int .i64 p.marks, .int .i64 p.ahead, .int .i64 p.tickets, .int .i64 p.retries, .int .i64 p.step, .int .i64 (s.low : Nat)].toArray 82 (0, 0)) (by simp)) rfl
  have c2 : ∀ {w : World}, Goes w0 (keys ([(pw, .cells [.pointer (some ⟨pr, 0, none⟩), .pointer (some ⟨pc, 0, none⟩), .int .i64 p.bytes, .int .i64 p.trail, .int .i64 p.marks, .int .i64 p.ahead, .int .i64 p.tickets, .int .i64 p.retries, .int .i64 p.step, .int .i64 (s.low : Nat)].toArray 82 (0, 0))] ++ (fr ++ fc))) [[(pw, .cells [.pointer (some ⟨pr, 0, none⟩), .pointer (some ⟨pc, 0, none⟩), .int .i64 p.bytes, .int .i64 p.trail, .int .i64 p.marks, .int .i64 p.ahead, .int .i64 p.tickets, .int .i64 p.retries, .int .i64 p.step, .int .i64 (s.low : Nat)].toArray 82 (0, 0))] ++ (fr ++ fc)] w → w.cell? ⟨pw, 0, none⟩ = some (.pointer (some ⟨pr, 0, none⟩)) := fun h => heap_cell (h.own (pw, .cells [.pointer (some ⟨pr, 0, none⟩), .pointer (some ⟨pc, 0, none⟩), .int .i64 p.bytes, .int .i64 p.trail, .int .i64 p.marks, .int .i64 p.ahead, .int .i64 p.tickets, .int .i64 p.retries, .int .i64 p.step, .int .i64 (s.low : Nat)].toArray 82 (0, 0)) (by simp)) rfl
  have c3 : ∀ {w : World}, Goes w0 (keys ([(pw, .cells [.pointer (some ⟨pr, 0, none⟩), .pointer (some ⟨pc, 0, none⟩), .int .i64 p.bytes, .int .i64 p.trail, .int .i64 p.marks, .int .i64 p.ahead, .int .i64 p.tickets, .int .i64 p.retries, .int .i64 p.step, .int .i64 (s.low : Nat)].toArray 82 (0, 0))] ++ (fr ++ fc))) [[(pw, .cells [.pointer (some ⟨pr, 0, none⟩), .pointer (some ⟨pc, 0, none⟩), .int .i64 p.bytes, .int .i64 p.trail, .int .i64 p.marks, .int .i64 p.ahead, .int .i64 p.tickets, .int .i64 p.retries, .int .i64 p.step, .int .i64 (s.low : Nat)].toArray 82 (0, 0))] ++ (fr ++ fc)] w → w.cell? ⟨pw, 8, none⟩ = some (.int .i64 p.step) := fun h => heap_cell (h.own (pw, .cells [.pointer (some ⟨pr, 0, none⟩), .pointer (some ⟨pc, 0, none⟩), .int .i64 p.bytes, .int .i64 p.trail, .int .i64 p.marks, .int .i64 p.ahead, .int .i64 p.tickets, .int .i64 p.retries, .int .i64 p.step, .int .i64 (s.low : Nat)].toArray 82 (0, 0)) (by simp)) rfl
  have hpos := h2.pos
  have p3 : ∀ {w}, Goes w0 (keys ([(pw, .cells [.pointer (some ⟨pr, 0, none⟩), .pointer (some ⟨pc, 0, none⟩), .int .i64 p.bytes, .int .i64 p.trail, .int .i64 p.marks, .int .i64 p.ahead, .int .i64 p.tickets, .int .i64 p.retries, .int .i64 p.step, .int .i64 (s.low : Nat)].toArray 82 (0, 0))] ++ (fr ++ fc))) [[(pw, .cells [.pointer (some ⟨pr, 0, none⟩), .pointer (some ⟨pc, 0, none⟩), .int .i64 p.bytes, .int .i64 p.trail, .int .i64 p.marks, .int .i64 p.ahead, .int .i64 p.tickets, .int .i64 p.retries, .int .i64 p.step, .int .i64 (s.low : Nat)].toArray 82 (0, 0))] ++ (fr ++ fc)] w → Calls Try.prog 73 #[.pointer (some ⟨pr, 0, none⟩)] w _ := fun h => rLeft_spec h1 (h.owns1.parts).2.1.1 ⟨hpos, by omega⟩ ⟨by omega, by omega⟩
  refine enter Try.func51 rfl (by simp only [Try.ntmps51, List.length_cons, List.length_nil, Nat.reduceAdd, Nat.reduceSub, List.replicate_succ, List.replicate_zero, List.cons_append, List.nil_append]; exact rfl) ?_
  by_cases ha : k ≤ (n : Int) - ((s.all.length : Int) - s.fl)
  · have hfit : s.fits p.bytes k = true := fits_iff.2 (.inl (by omega))
    unfold WS.make
    rw [if_pos hfit, hfit]
    repeat' (first
      | with_reducible refine QX.next ?_ | with_reducible refine WC.seq ?_ | with_reducible refine WC.region ?_ | with_reducible refine WC.block ?_ | with_reducible refine QX.bnorm ?_ | with_reducible refine QX.bret ?_ | with_reducible refine QX.ret ?_ | with_reducible refine QX.exit ?_ | with_reducible refine QX.bsame ?_ | with_reducible refine QX.bother rfl ?_
      | with_reducible refine WO.nil ?_ | with_reducible refine WC.skip ?_ | with_reducible refine WC.ret ?_ | with_reducible refine WC.exit ?_ | ((with_reducible refine WC.id ?_); first | refine WC.condT rfl ?_ | refine WC.condF rfl ?_)
      | (refine WC.quietG hg ?_; clear hg) | ((with_reducible refine WQ.nilG ?_); intro w hg)
      | ((with_reducible refine WQ.cid ?_); first | refine WQ.xG ?_ | refine WQ.pure ?_)
      | ((with_reducible refine WQ.gid ?_); first | refine WQ.on rfl ?_ | refine WQ.offN rfl rfl ?_)
      | ((with_reducible refine WO.cid ?_); first
        | refine WO.x ?_ | (refine op_alloc hg ?_; clear hg; intro b w hg; refine WO.fr ?_) | (refine op_boxA hg ?_; clear hg; intro b w hg; refine WO.fr ?_) | (refine op_box1 hg ?_; clear hg; intro b w hg; refine WO.fr ?_)
        | (refine op_store hg ?_; clear hg; intro w hg; refine WO.fr ?_; try simp only [List.set_cons_succ, List.set_cons_zero] at hg)
        | (refine op_storeA hg ?_; clear hg; intro w hg; refine WO.fr ?_; try simp only [over, List.take_zero, List.take_succ_cons, List.drop_zero, List.drop_succ_cons, List.nil_append, List.cons_append, List.append_nil, List.length_cons, List.length_nil, Nat.zero_add, Nat.reduceAdd, splice, cellsL] at hg)
        | (refine op_pure hg ?_; clear hg; intro w hg; refine WO.fr ?_) | (refine op_pureB hg ?_; clear hg; intro w hg c hc; cases c <;> refine WO.fr ?_))
      | ((with_reducible refine WO.gid ?_); first | refine WO.on rfl ?_ | refine WO.offN rfl rfl ?_))
    exact ret1 rfl ⟨_, rfl, hF0, hg⟩
  by_cases hb : s.fl = s.low
  · have hfit : s.fits p.bytes k = true := fits_iff.2 (.inr hb)
    unfold WS.make
    rw [if_pos hfit, hfit]
    repeat' (first
      | with_reducible refine QX.next ?_ | with_reducible refine WC.seq ?_ | with_reducible refine WC.region ?_ | with_reducible refine WC.block ?_ | with_reducible refine QX.bnorm ?_ | with_reducible refine QX.bret ?_ | with_reducible refine QX.ret ?_ | with_reducible refine QX.exit ?_ | with_reducible refine QX.bsame ?_ | with_reducible refine QX.bother rfl ?_
      | with_reducible refine WO.nil ?_ | with_reducible refine WC.skip ?_ | with_reducible refine WC.ret ?_ | with_reducible refine WC.exit ?_ | ((with_reducible refine WC.id ?_); first | refine WC.condT rfl ?_ | refine WC.condF rfl ?_)
      | (refine WC.quietG hg ?_; clear hg) | ((with_reducible refine WQ.nilG ?_); intro w hg)
      | ((with_reducible refine WQ.cid ?_); first | refine WQ.xG ?_ | refine WQ.pure ?_)
      | ((with_reducible refine WQ.gid ?_); first | refine WQ.on rfl ?_ | refine WQ.offN rfl rfl ?_)
      | ((with_reducible refine WO.cid ?_); first
        | refine WO.x ?_ | (refine op_alloc hg ?_; clear hg; intro b w hg; refine WO.fr ?_) | (refine op_boxA hg ?_; clear hg; intro b w hg; refine WO.fr ?_) | (refine op_box1 hg ?_; clear hg; intro b w hg; refine WO.fr ?_)
        | (refine op_store hg ?_; clear hg; intro w hg; refine WO.fr ?_; try simp only [List.set_cons_succ, List.set_cons_zero] at hg)
        | (refine op_storeA hg ?_; clear hg; intro w hg; refine WO.fr ?_; try simp only [over, List.take_zero, List.take_succ_cons, List.drop_zero, List.drop_succ_cons, List.nil_append, List.cons_append, List.append_nil, List.length_cons, List.length_nil, Nat.zero_add, Nat.reduceAdd, splice, cellsL] at hg)
        | (refine op_pure hg ?_; clear hg; intro w hg; refine WO.fr ?_) | (refine op_pureB hg ?_; clear hg; intro w hg c hc; cases c <;> refine WO.fr ?_))
      | ((with_reducible refine WO.gid ?_); first | refine WO.on rfl ?_ | refine WO.offN rfl rfl ?_))
    exact ret1 rfl ⟨_, rfl, hF0, hg⟩
  have hfit : s.fits p.bytes k = false := by
    rw [Bool.eq_false_iff]
    intro h
    rcases fits_iff.1 h with h | h
    · omega
    · exact hb h
  unfold WS.make
  rw [hfit, if_neg (by decide)]
  repeat' (first
    | with_reducible refine QX.next ?_ | with_reducible refine WC.seq ?_ | with_reducible refine WC.region ?_ | with_reducible refine WC.block ?_ | with_reducible refine QX.bnorm ?_ | with_reducible refine QX.bret ?_ | with_reducible refine QX.ret ?_ | with_reducible refine QX.exit ?_ | with_reducible refine QX.bsame ?_ | with_reducible refine QX.bother rfl ?_
    | with_reducible refine WO.nil ?_ | with_reducible refine WC.skip ?_ | with_reducible refine WC.ret ?_ | with_reducible refine WC.exit ?_ | ((with_reducible refine WC.id ?_); first | refine WC.condT rfl ?_ | refine WC.condF rfl ?_)
    | (refine WC.quietG hg ?_; clear hg) | ((with_reducible refine WQ.nilG ?_); intro w hg)
    | ((with_reducible refine WQ.cid ?_); first | refine WQ.xG ?_ | refine WQ.pure ?_)
    | ((with_reducible refine WQ.gid ?_); first | refine WQ.on rfl ?_ | refine WQ.offN rfl rfl ?_)
    | ((with_reducible refine WO.cid ?_); first
      | refine WO.x ?_ | (refine op_alloc hg ?_; clear hg; intro b w hg; refine WO.fr ?_) | (refine op_boxA hg ?_; clear hg; intro b w hg; refine WO.fr ?_) | (refine op_box1 hg ?_; clear hg; intro b w hg; refine WO.fr ?_)
      | (refine op_store hg ?_; clear hg; intro w hg; refine WO.fr ?_; try simp only [List.set_cons_succ, List.set_cons_zero] at hg)
      | (refine op_storeA hg ?_; clear hg; intro w hg; refine WO.fr ?_; try simp only [over, List.take_zero, List.take_succ_cons, List.drop_zero, List.drop_succ_cons, List.nil_append, List.cons_append, List.append_nil, List.length_cons, List.length_nil, Nat.zero_add, Nat.reduceAdd, splice, cellsL] at hg)
      | (refine op_pure hg ?_; clear hg; intro w hg; refine WO.fr ?_) | (refine op_pureB hg ?_; clear hg; intro w hg c hc; cases c <;> refine WO.fr ?_))
    | ((with_reducible refine WO.gid ?_); first | refine WO.on rfl ?_ | refine WO.offN rfl rfl ?_))
  refine op_call (wReclaim_spec p.step hF0 hg.owns1 hK hal) ?_
  rintro _ w2 ⟨f2, rfl, hF2, hg2⟩
  replace hg := hg.callF hg2
  clear hg2
  refine ⟨_, rfl, ?_⟩
  refine WO.fr ?_
  clear p1 p2 p3 c1 c2 c3
  repeat' (first
    | with_reducible refine QX.next ?_ | with_reducible refine WC.seq ?_ | with_reducible refine WC.region ?_ | with_reducible refine WC.block ?_ | with_reducible refine QX.bnorm ?_ | with_reducible refine QX.bret ?_ | with_reducible refine QX.ret ?_ | with_reducible refine QX.exit ?_ | with_reducible refine QX.bsame ?_ | with_reducible refine QX.bother rfl ?_
    | with_reducible refine WO.nil ?_ | with_reducible refine WC.skip ?_ | with_reducible refine WC.ret ?_ | with_reducible refine WC.exit ?_ | ((with_reducible refine WC.id ?_); first | refine WC.condT rfl ?_ | refine WC.condF rfl ?_)
    | (refine WC.quietG hg ?_; clear hg) | ((with_reducible refine WQ.nilG ?_); intro w hg)
    | ((with_reducible refine WQ.cid ?_); first | refine WQ.xG ?_ | refine WQ.pure ?_)
    | ((with_reducible refine WQ.gid ?_); first | refine WQ.on rfl ?_ | refine WQ.offN rfl rfl ?_)
    | ((with_reducible refine WO.cid ?_); first
      | refine WO.x ?_ | (refine op_alloc hg ?_; clear hg; intro b w hg; refine WO.fr ?_) | (refine op_boxA hg ?_; clear hg; intro b w hg; refine WO.fr ?_) | (refine op_box1 hg ?_; clear hg; intro b w hg; refine WO.fr ?_)
      | (refine op_store hg ?_; clear hg; intro w hg; refine WO.fr ?_; try simp only [List.set_cons_succ, List.set_cons_zero] at hg)
      | (refine op_storeA hg ?_; clear hg; intro w hg; refine WO.fr ?_; try simp only [over, List.take_zero, List.take_succ_cons, List.drop_zero, List.drop_succ_cons, List.nil_append, List.cons_append, List.append_nil, List.length_cons, List.length_nil, Nat.zero_add, Nat.reduceAdd, splice, cellsL] at hg)
      | (refine op_pure hg ?_; clear hg; intro w hg; refine WO.fr ?_) | (refine op_pureB hg ?_; clear hg; intro w hg c hc; cases c <;> refine WO.fr ?_))
    | ((with_reducible refine WO.gid ?_); first | refine WO.on rfl ?_ | refine WO.offN rfl rfl ?_))
  exact ret1 rfl ⟨_, rfl, hF2, hg⟩

/-- The floor, as it lies. -/
def flAt (pw : Nat) (w : World) : Int := match w.cell? ⟨pw, 0, none⟩ with
  | some (.pointer (some a)) => match w.cell? ⟨a.block, 1, none⟩ with
    | some v => intOf v
    | none => 0
  | _ => 0
theorem flAt_eq (hF : WinF pw p s f) (hO : Owns w0 f) : flAt pw w0 = s.fl := by
  obtain ⟨pr, pc, n, bl, m, h, fr, fc, rfl, hn, ⟨g, rfl⟩, h2, h3, h4⟩ := hF
  obtain ⟨o1, o2, o3⟩ := hO.parts
  have c1 : w0.cell? ⟨pw, 0, none⟩ = some (.pointer (some ⟨pr, 0, none⟩)) := heap_cell (o1.1 (pw, .cells [.pointer (some ⟨pr, 0, none⟩), .pointer (some ⟨pc, 0, none⟩), .int .i64 p.bytes, .int .i64 p.trail, .int .i64 p.marks, .int .i64 p.ahead, .int .i64 p.tickets, .int .i64 p.retries, .int .i64 p.step, .int .i64 (s.low : Nat)].toArray 82 (0, 0)) (by simp)) rfl
  have c2 : w0.cell? ⟨pr, 1, none⟩ = some (.int .i64 s.fl) := heap_cell (o2.1 (pr, .cells [.slice (some ⟨g, 0, none⟩) n n, .int .i64 (s.fl : Nat), .int .i64 (s.all.length : Nat)].toArray 112 (0, 0)) (by simp)) rfl
  unfold flAt
  rw [c1]
  dsimp only
  rw [c2]
  rfl
theorem makes_len {B st n : Int} : ∀ k, (WS.makes B st n s k).all.length = s.all.length := fun k => by rw [(makes_all k).1]
set_option maxHeartbeats 4000000 in
theorem wFeed_spec (t : List UInt8) (hF : WinF pw p s f) (hO : Owns w0 f) (hW : WOK p.bytes s) (hal : s.all.length ≤ 100000) (ht : t.length ≤ 1000000) : Calls Try.prog 27 #[.pointer (some ⟨pw, 0, none⟩), .string (str t)] w0 fun e w' => ∃ f', e = .returned (.int .i64 (s.fedN p.bytes p.step t : Nat)) ∧ WinF pw p (s.feed p.bytes p.step t) f' ∧ Goes w0 (keys f) [f'] w' := by
  have hF0 := hF
  have hss := str_size t
  have p1 : ∀ {w}, Goes w0 (keys f) [f] w → Calls Try.prog 50 #[.pointer (some ⟨pw, 0, none⟩)] w _ := fun h => wmade_spec hF0 h.owns1
  have hg := hO.goes
  refine enter Try.func27 rfl (by simp only [Try.ntmps27, List.length_cons, List.length_nil, Nat.reduceAdd, Nat.reduceSub, List.replicate_succ, List.replicate_zero, List.cons_append, List.nil_append]; exact rfl) ?_
  repeat' (first
    | with_reducible refine QX.next ?_ | with_reducible refine WC.seq ?_ | with_reducible refine WC.region ?_ | with_reducible refine WC.block ?_ | with_reducible refine QX.bnorm ?_ | with_reducible refine QX.bret ?_ | with_reducible refine QX.ret ?_ | with_reducible refine QX.exit ?_ | with_reducible refine QX.bsame ?_ | with_reducible refine QX.bother rfl ?_
    | with_reducible refine WO.nil ?_ | with_reducible refine WC.skip ?_ | with_reducible refine WC.ret ?_ | with_reducible refine WC.exit ?_ | ((with_reducible refine WC.id ?_); first | refine WC.condT rfl ?_ | refine WC.condF rfl ?_)
    | (refine WC.quietG hg ?_; clear hg) | ((with_reducible refine WQ.nilG ?_); intro w hg)
    | ((with_reducible refine WQ.cid ?_); first | refine WQ.xG ?_ | refine WQ.pure ?_)
    | ((with_reducible refine WQ.gid ?_); first | refine WQ.on rfl ?_ | refine WQ.offN rfl rfl ?_)
    | ((with_reducible refine WO.cid ?_); first
      | refine WO.x ?_ | (refine op_alloc hg ?_; clear hg; intro b w hg; refine WO.fr ?_) | (refine op_boxA hg ?_; clear hg; intro b w hg; refine WO.fr ?_) | (refine op_box1 hg ?_; clear hg; intro b w hg; refine WO.fr ?_)
      | (refine op_store hg ?_; clear hg; intro w hg; refine WO.fr ?_; try simp only [List.set_cons_succ, List.set_cons_zero] at hg)
      | (refine op_storeA hg ?_; clear hg; intro w hg; refine WO.fr ?_; try simp only [over, List.take_zero, List.take_succ_cons, List.drop_zero, List.drop_succ_cons, List.nil_append, List.cons_append, List.append_nil, List.length_cons, List.length_nil, Nat.zero_add, Nat.reduceAdd, splice, cellsL] at hg)
      | (refine op_pure hg ?_; clear hg; intro w hg; refine WO.fr ?_) | (refine op_pureB hg ?_; clear hg; intro w hg c hc; cases c <;> refine WO.fr ?_))
    | ((with_reducible refine WO.gid ?_); first | refine WO.on rfl ?_ | refine WO.offN rfl rfl ?_))
  clear p1
  refine WC.loopS [8, 9, 10, 11, 12] (fun xs d w => ∃ (k : Nat) (f' : Frag), d = [] ∧ WinF pw p (WS.makes p.bytes p.step t.length s k) f' ∧ Goes w0 (keys f) [f'] w) (fun xs _ w => (s.low - flAt pw w).toNat) ?_ ?_
  · exact ⟨0, f, rfl, hF, hg⟩
  clear hg hF
  intro xs d w hlen hI K hK
  replace hlen := len_cons hlen
  obtain ⟨x8, xs, rfl, hlen⟩ := hlen
  replace hlen := len_cons hlen
  obtain ⟨x9, xs, rfl, hlen⟩ := hlen
  replace hlen := len_cons hlen
  obtain ⟨x10, xs, rfl, hlen⟩ := hlen
  replace hlen := len_cons hlen
  obtain ⟨x11, xs, rfl, hlen⟩ := hlen
  replace hlen := len_cons hlen
  obtain ⟨x12, xs, rfl, hlen⟩ := hlen
  replace hlen := len_nil hlen
  subst hlen
  refine WC.frame (by simp only [setAll, List.set_cons_succ, List.set_cons_zero]; exact rfl) ?_
  try simp only [gt] at hI
  obtain ⟨k, f', rfl, hF, hg⟩ := hI
  have hKk : WOK p.bytes (WS.makes p.bytes p.step t.length s k) := WOK.makes hW k
  have hlk : (WS.makes p.bytes p.step t.length s k).all.length ≤ 100000 := by rw [makes_len]; exact hal
  have hfl := flAt_eq hF hg.owns1
  have hmake := wMake_spec (t.length : Int) hF hg.owns1 hKk hlk
  generalize hkk : WS.makes p.bytes p.step t.length s k = sk at hF hKk hlk hfl hmake
  have hlow : sk.low = s.low := by rw [← hkk, (makes_all k).2]
  rw [← hss] at hmake
  repeat' (first
    | with_reducible refine QX.next ?_ | with_reducible refine WC.seq ?_ | with_reducible refine WC.region ?_ | with_reducible refine WC.block ?_ | with_reducible refine QX.bnorm ?_ | with_reducible refine QX.bret ?_ | with_reducible refine QX.ret ?_ | with_reducible refine QX.exit ?_ | with_reducible refine QX.bsame ?_ | with_reducible refine QX.bother rfl ?_
    | with_reducible refine WO.nil ?_ | with_reducible refine WC.skip ?_ | with_reducible refine WC.ret ?_ | with_reducible refine WC.exit ?_ | ((with_reducible refine WC.id ?_); first | refine WC.condT rfl ?_ | refine WC.condF rfl ?_)
    | (refine WC.quietG hg ?_; clear hg) | ((with_reducible refine WQ.nilG ?_); intro w hg)
    | ((with_reducible refine WQ.cid ?_); first | refine WQ.xG ?_ | refine WQ.pure ?_)
    | ((with_reducible refine WQ.gid ?_); first | refine WQ.on rfl ?_ | refine WQ.offN rfl rfl ?_)
    | ((with_reducible refine WO.cid ?_); first
      | refine WO.x ?_ | (refine op_alloc hg ?_; clear hg; intro b w hg; refine WO.fr ?_) | (refine op_boxA hg ?_; clear hg; intro b w hg; refine WO.fr ?_) | (refine op_box1 hg ?_; clear hg; intro b w hg; refine WO.fr ?_)
      | (refine op_store hg ?_; clear hg; intro w hg; refine WO.fr ?_; try simp only [List.set_cons_succ, List.set_cons_zero] at hg)
      | (refine op_storeA hg ?_; clear hg; intro w hg; refine WO.fr ?_; try simp only [over, List.take_zero, List.take_succ_cons, List.drop_zero, List.drop_succ_cons, List.nil_append, List.cons_append, List.append_nil, List.length_cons, List.length_nil, Nat.zero_add, Nat.reduceAdd, splice, cellsL] at hg)
      | (refine op_pure hg ?_; clear hg; intro w hg; refine WO.fr ?_) | (refine op_pureB hg ?_; clear hg; intro w hg c hc; cases c <;> refine WO.fr ?_))
    | ((with_reducible refine WO.gid ?_); first | refine WO.on rfl ?_ | refine WO.offN rfl rfl ?_))
  refine op_call hmake ?_
  rintro _ w2 ⟨f2, rfl, hF2, hg2⟩
  replace hg := hg.callF hg2
  clear hg2 hmake
  rw [hss] at hF2 ⊢
  refine ⟨_, rfl, ?_⟩
  refine WO.fr ?_
  cases hfit : sk.fits p.bytes t.length
  · have e : sk.make p.bytes p.step t.length = sk.recl p.step := by
      unfold WS.make
      rw [hfit, if_neg (by decide)]
    have e2 : WS.makes p.bytes p.step t.length s (k + 1) = sk.recl p.step := by
      rw [← e, ← hkk]; rfl
    rw [e] at hF2
    have hfl2 := flAt_eq hF2 hg.owns1
    repeat' (first
      | with_reducible refine QX.next ?_ | with_reducible refine WC.seq ?_ | with_reducible refine WC.region ?_ | with_reducible refine WC.block ?_ | with_reducible refine QX.bnorm ?_ | with_reducible refine QX.bret ?_ | with_reducible refine QX.ret ?_ | with_reducible refine QX.exit ?_ | with_reducible refine QX.bsame ?_ | with_reducible refine QX.bother rfl ?_
      | with_reducible refine WO.nil ?_ | with_reducible refine WC.skip ?_ | with_reducible refine WC.ret ?_ | with_reducible refine WC.exit ?_ | ((with_reducible refine WC.id ?_); first | refine WC.condT rfl ?_ | refine WC.condF rfl ?_)
      | (refine WC.quietG hg ?_; clear hg) | ((with_reducible refine WQ.nilG ?_); intro w hg)
      | ((with_reducible refine WQ.cid ?_); first | refine WQ.xG ?_ | refine WQ.pure ?_)
      | ((with_reducible refine WQ.gid ?_); first | refine WQ.on rfl ?_ | refine WQ.offN rfl rfl ?_)
      | ((with_reducible refine WO.cid ?_); first
        | refine WO.x ?_ | (refine op_alloc hg ?_; clear hg; intro b w hg; refine WO.fr ?_) | (refine op_boxA hg ?_; clear hg; intro b w hg; refine WO.fr ?_) | (refine op_box1 hg ?_; clear hg; intro b w hg; refine WO.fr ?_)
        | (refine op_store hg ?_; clear hg; intro w hg; refine WO.fr ?_; try simp only [List.set_cons_succ, List.set_cons_zero] at hg)
        | (refine op_storeA hg ?_; clear hg; intro w hg; refine WO.fr ?_; try simp only [over, List.take_zero, List.take_succ_cons, List.drop_zero, List.drop_succ_cons, List.nil_append, List.cons_append, List.append_nil, List.length_cons, List.length_nil, Nat.zero_add, Nat.reduceAdd, splice, cellsL] at hg)
        | (refine op_pure hg ?_; clear hg; intro w hg; refine WO.fr ?_) | (refine op_pureB hg ?_; clear hg; intro w hg c hc; cases c <;> refine WO.fr ?_))
      | ((with_reducible refine WO.gid ?_); first | refine WO.on rfl ?_ | refine WO.offN rfl rfl ?_))
    with_reducible refine QX.norm ?_
    refine hK _ _ _ ?_ ?_ ?_
    · simp only [setAll, List.map_cons, List.map_nil, gt, List.set_cons_succ, List.set_cons_zero]
    all_goals try simp only [List.map_cons, List.map_nil, gt, intOf]
    · exact ⟨k + 1, f2, trivial, by rw [e2]; exact hF2, hg⟩
    · rw [hfl, hfl2]
      have h1 := hKk.h1
      have hne : sk.fl ≠ sk.low := fun he => by rw [fits_iff.2 (.inr he)] at hfit; exact absurd hfit (by decide)
      simp only [WS.recl, WS.rise]
      omega
  · have e : sk.make p.bytes p.step t.length = s.made p.bytes p.step t.length := by
      unfold WS.make
      rw [hfit, if_pos rfl, ← hkk]
      exact made_eq hW (by rw [hkk]; exact hfit)
    rw [e] at hF2
    have hWm : WOK p.bytes (s.made p.bytes p.step t.length) := WOK.makes hW _
    have hlm : (s.made p.bytes p.step t.length).all.length ≤ 100000 := by unfold WS.made; rw [makes_len]; exact hal
    unfold WS.feed WS.fedN
    generalize s.made p.bytes p.step t.length = sm at hF2 hWm hlm ⊢
    obtain ⟨pr, pc, n, bl, m, h, fr, fc, rfl, hn, h1, h2, h3, h4⟩ := hF2
    have c1 : ∀ {w : World}, Goes w0 (keys f) [[(pw, .cells [.pointer (some ⟨pr, 0, none⟩), .pointer (some ⟨pc, 0, none⟩), .int .i64 p.bytes, .int .i64 p.trail, .int .i64 p.marks, .int .i64 p.ahead, .int .i64 p.tickets, .int .i64 p.retries, .int .i64 p.step, .int .i64 (sm.low : Nat)].toArray 82 (0, 0))] ++ (fr ++ fc)] w → w.cell? ⟨pw, 0, none⟩ = some (.pointer (some ⟨pr, 0, none⟩)) := fun h => heap_cell (h.own (pw, .cells [.pointer (some ⟨pr, 0, none⟩), .pointer (some ⟨pc, 0, none⟩), .int .i64 p.bytes, .int .i64 p.trail, .int .i64 p.marks, .int .i64 p.ahead, .int .i64 p.tickets, .int .i64 p.retries, .int .i64 p.step, .int .i64 (sm.low : Nat)].toArray 82 (0, 0)) (by simp)) rfl
    have hb1 := hWm.b1; have hb2 := hWm.b2; have hs1 := hWm.h1; have hs2 := hWm.h2; have hs3 := hWm.h3
    clear hF hfl hkk
    repeat' (first
      | with_reducible refine QX.next ?_ | with_reducible refine WC.seq ?_ | with_reducible refine WC.region ?_ | with_reducible refine WC.block ?_ | with_reducible refine QX.bnorm ?_ | with_reducible refine QX.bret ?_ | with_reducible refine QX.ret ?_ | with_reducible refine QX.exit ?_ | with_reducible refine QX.bsame ?_ | with_reducible refine QX.bother rfl ?_
      | with_reducible refine WO.nil ?_ | with_reducible refine WC.skip ?_ | with_reducible refine WC.ret ?_ | with_reducible refine WC.exit ?_ | ((with_reducible refine WC.id ?_); first | refine WC.condT rfl ?_ | refine WC.condF rfl ?_)
      | (refine WC.quietG hg ?_; clear hg) | ((with_reducible refine WQ.nilG ?_); intro w hg)
      | ((with_reducible refine WQ.cid ?_); first | refine WQ.xG ?_ | refine WQ.pure ?_)
      | ((with_reducible refine WQ.gid ?_); first | refine WQ.on rfl ?_ | refine WQ.offN rfl rfl ?_)
      | ((with_reducible refine WO.cid ?_); first
        | refine WO.x ?_ | (refine op_alloc hg ?_; clear hg; intro b w hg; refine WO.fr ?_) | (refine op_boxA hg ?_; clear hg; intro b w hg; refine WO.fr ?_) | (refine op_box1 hg ?_; clear hg; intro b w hg; refine WO.fr ?_)
        | (refine op_store hg ?_; clear hg; intro w hg; refine WO.fr ?_; try simp only [List.set_cons_succ, List.set_cons_zero] at hg)
        | (refine op_storeA hg ?_; clear hg; intro w hg; refine WO.fr ?_; try simp only [over, List.take_zero, List.take_succ_cons, List.drop_zero, List.drop_succ_cons, List.nil_append, List.cons_append, List.append_nil, List.length_cons, List.length_nil, Nat.zero_add, Nat.reduceAdd, splice, cellsL] at hg)
        | (refine op_pure hg ?_; clear hg; intro w hg; refine WO.fr ?_) | (refine op_pureB hg ?_; clear hg; intro w hg c hc; cases c <;> refine WO.fr ?_))
      | ((with_reducible refine WO.gid ?_); first | refine WO.on rfl ?_ | refine WO.offN rfl rfl ?_))
    have hput := rPut_spec2 t h1 (hg.three.front 1).owns1 h2 (by omega) hlm ht
    rw [show min t.length (n - (sm.all.length - sm.fl)) = min t.length (p.bytes - ((sm.all.length : Int) - sm.fl)).toNat from by omega] at hput
    refine op_call hput ?_
    rintro _ w ⟨bl2, fr2, rfl, h1, h2, hg2⟩
    replace hg := (hg.three.front 1).callF hg2
    clear hg2 c1
    refine ⟨_, rfl, ?_⟩
    refine WO.fr ?_
    repeat' (first
      | with_reducible refine QX.next ?_ | with_reducible refine WC.seq ?_ | with_reducible refine WC.region ?_ | with_reducible refine WC.block ?_ | with_reducible refine QX.bnorm ?_ | with_reducible refine QX.bret ?_ | with_reducible refine QX.ret ?_ | with_reducible refine QX.exit ?_ | with_reducible refine QX.bsame ?_ | with_reducible refine QX.bother rfl ?_
      | with_reducible refine WO.nil ?_ | with_reducible refine WC.skip ?_ | with_reducible refine WC.ret ?_ | with_reducible refine WC.exit ?_ | ((with_reducible refine WC.id ?_); first | refine WC.condT rfl ?_ | refine WC.condF rfl ?_)
      | (refine WC.quietG hg ?_; clear hg) | ((with_reducible refine WQ.nilG ?_); intro w hg)
      | ((with_reducible refine WQ.cid ?_); first | refine WQ.xG ?_ | refine WQ.pure ?_)
      | ((with_reducible refine WQ.gid ?_); first | refine WQ.on rfl ?_ | refine WQ.offN rfl rfl ?_)
      | ((with_reducible refine WO.cid ?_); first
        | refine WO.x ?_ | (refine op_alloc hg ?_; clear hg; intro b w hg; refine WO.fr ?_) | (refine op_boxA hg ?_; clear hg; intro b w hg; refine WO.fr ?_) | (refine op_box1 hg ?_; clear hg; intro b w hg; refine WO.fr ?_)
        | (refine op_store hg ?_; clear hg; intro w hg; refine WO.fr ?_; try simp only [List.set_cons_succ, List.set_cons_zero] at hg)
        | (refine op_storeA hg ?_; clear hg; intro w hg; refine WO.fr ?_; try simp only [over, List.take_zero, List.take_succ_cons, List.drop_zero, List.drop_succ_cons, List.nil_append, List.cons_append, List.append_nil, List.length_cons, List.length_nil, Nat.zero_add, Nat.reduceAdd, splice, cellsL] at hg)
        | (refine op_pure hg ?_; clear hg; intro w hg; refine WO.fr ?_) | (refine op_pureB hg ?_; clear hg; intro w hg c hc; cases c <;> refine WO.fr ?_))
      | ((with_reducible refine WO.gid ?_); first | refine WO.on rfl ?_ | refine WO.offN rfl rfl ?_))
    exact ret1 rfl ⟨_, rfl, ⟨pr, pc, n, bl2, m, h, fr2, fc, rfl, hn, h1, h2, h3, h4⟩, (((hg.front 2).front 1).front 2).unthree⟩
end
end Go.Proofs.Ytdjepfpmoeecaaa
