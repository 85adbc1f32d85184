/- The window's law: WindowPlays. -/
import Derived.Test.YtdjepfpmoeecaaaWiK
namespace Go.Proofs.Ytdjepfpmoeecaaa
open Go Go.RowKit
set_option maxRecDepth 10000
set_option linter.unusedSimpArgs false
set_option linter.unusedVariables false

set_option maxHeartbeats 16000000 in
theorem WindowPlays_law (p : Prm) (a : Option Addr) (cap : Nat) (its : List WAct) (qx qy : Int) (w0 : World) (hS : Sl w0 a cap 11 (its.map WAct.enc)) :
    Calls Try.prog 7 #[.agg p.enc.toArray, .slice a its.length cap, .agg [.int .i64 qx, .int .i64 qy].toArray] w0 fun e w' => e = .returned (.bool true) ∧ Goes w0 [] [] w' := by
  have hg := Goes.refl w0
  have p1 := walive_spec
  have p2 : ∀ {w Fs}, Goes w0 [] Fs w → Calls Try.prog 23 #[.slice a its.length cap] w _ := fun h => wlight_spec _ a cap its (hS.goes h)
  have p3 : ∀ {w Fs}, Goes w0 [] Fs w → Calls Try.prog 34 #[.agg p.enc.toArray] w _ := fun _ => wRight_spec _ _
  have p4 : ∀ {w Fs}, Goes w0 [] Fs w → Calls Try.prog 35 #[.agg p.enc.toArray] w _ := fun _ => rRight_spec _ _
  cases hl : wlight its <;> rw [hl] at p2
  · simp only [Prm.enc]
    refine enter Try.func7 rfl (by simp only [Try.ntmps7, List.length_cons, List.length_nil, Nat.reduceAdd, Nat.reduceSub, List.replicate_succ, List.replicate_zero, List.cons_append, List.nil_append]; exact rfl) ?_
    repeat' (first
      | with_reducible refine QX.next ?_ | with_reducible refine WC.seq ?_ | with_reducible refine WC.region ?_ | with_reducible refine WC.block ?_ | with_reducible refine QX.bnorm ?_ | with_reducible refine QX.bret ?_ | with_reducible refine QX.ret ?_ | with_reducible refine QX.exit ?_ | with_reducible refine QX.bsame ?_ | with_reducible refine QX.bother rfl ?_
      | with_reducible refine WO.nil ?_ | with_reducible refine WC.skip ?_ | with_reducible refine WC.ret ?_ | with_reducible refine WC.exit ?_ | ((with_reducible refine WC.id ?_); first | refine WC.condT rfl ?_ | refine WC.condF rfl ?_)
      | (refine WC.quietG hg ?_; clear hg) | ((with_reducible refine WQ.nilG ?_); intro w hg)
      | ((with_reducible refine WQ.cid ?_); first | refine WQ.xG ?_ | refine WQ.pure ?_)
      | ((with_reducible refine WQ.gid ?_); first | refine WQ.on rfl ?_ | refine WQ.offN rfl rfl ?_)
      | ((with_reducible refine WO.cid ?_); first
        | refine WO.x ?_ | (refine op_alloc hg ?_; clear hg; intro b w hg; refine WO.fr ?_) | (refine op_boxA hg ?_; clear hg; intro b w hg; refine WO.fr ?_) | (refine op_box1 hg ?_; clear hg; intro b w hg; refine WO.fr ?_)
        | (refine op_store hg ?_; clear hg; intro w hg; refine WO.fr ?_; try simp only [List.set_cons_succ, List.set_cons_zero] at hg)
        | (refine op_storeA hg ?_; clear hg; intro w hg; refine WO.fr ?_; try simp only [over, List.take_zero, List.take_succ_cons, List.drop_zero, List.drop_succ_cons, List.nil_append, List.cons_append, List.append_nil, List.length_cons, List.length_nil, Nat.zero_add, Nat.reduceAdd, splice, cellsL] at hg)
        | (refine op_pure hg ?_; clear hg; intro w hg; refine WO.fr ?_) | (refine op_pureB hg ?_; clear hg; intro w hg c hc; cases c <;> refine WO.fr ?_))
      | ((with_reducible refine WO.gid ?_); first | refine WO.on rfl ?_ | refine WO.offN rfl rfl ?_))
    exact ret1 rfl ⟨rfl, hg.drop⟩
  obtain ⟨hl1, hl2⟩ := light_memK hl
  have hS0 := hS
  by_cases h200 : 200 < p.bytes
  · simp only [Prm.enc]
    refine enter Try.func7 rfl (by simp only [Try.ntmps7, List.length_cons, List.length_nil, Nat.reduceAdd, Nat.reduceSub, List.replicate_succ, List.replicate_zero, List.cons_append, List.nil_append]; exact rfl) ?_
    repeat' (first
      | with_reducible refine QX.next ?_ | with_reducible refine WC.seq ?_ | with_reducible refine WC.region ?_ | with_reducible refine WC.block ?_ | with_reducible refine QX.bnorm ?_ | with_reducible refine QX.bret ?_ | with_reducible refine QX.ret ?_ | with_reducible refine QX.exit ?_ | with_reducible refine QX.bsame ?_ | with_reducible refine QX.bother rfl ?_
      | with_reducible refine WO.nil ?_ | with_reducible refine WC.skip ?_ | with_reducible refine WC.ret ?_ | with_reducible refine WC.exit ?_ | ((with_reducible refine WC.id ?_); first | refine WC.condT rfl ?_ | refine WC.condF rfl ?_)
      | (refine WC.quietG hg ?_; clear hg) | ((with_reducible refine WQ.nilG ?_); intro w hg)
      | ((with_reducible refine WQ.cid ?_); first | refine WQ.xG ?_ | refine WQ.pure ?_)
      | ((with_reducible refine WQ.gid ?_); first | refine WQ.on rfl ?_ | refine WQ.offN rfl rfl ?_)
      | ((with_reducible refine WO.cid ?_); first
        | refine WO.x ?_ | (refine op_alloc hg ?_; clear hg; intro b w hg; refine WO.fr ?_) | (refine op_boxA hg ?_; clear hg; intro b w hg; refine WO.fr ?_) | (refine op_box1 hg ?_; clear hg; intro b w hg; refine WO.fr ?_)
        | (refine op_store hg ?_; clear hg; intro w hg; refine WO.fr ?_; try simp only [List.set_cons_succ, List.set_cons_zero] at hg)
        | (refine op_storeA hg ?_; clear hg; intro w hg; refine WO.fr ?_; try simp only [over, List.take_zero, List.take_succ_cons, List.drop_zero, List.drop_succ_cons, List.nil_append, List.cons_append, List.append_nil, List.length_cons, List.length_nil, Nat.zero_add, Nat.reduceAdd, splice, cellsL] at hg)
        | (refine op_pure hg ?_; clear hg; intro w hg; refine WO.fr ?_) | (refine op_pureB hg ?_; clear hg; intro w hg c hc; cases c <;> refine WO.fr ?_))
      | ((with_reducible refine WO.gid ?_); first | refine WO.on rfl ?_ | refine WO.offN rfl rfl ?_))
    exact ret1 rfl ⟨rfl, hg.drop⟩
  cases hr : p.right <;> rw [hr] at p3 p4
  · have p5 : ∀ {w Fs}, Goes w0 [] Fs w → Calls Try.prog 26 #[.agg p.enc.toArray] w _ := fun _ => wNew_no _ p hr
    simp only [Prm.enc] at p3 p4 p5 ⊢
    refine enter Try.func7 rfl (by simp only [Try.ntmps7, List.length_cons, List.length_nil, Nat.reduceAdd, Nat.reduceSub, List.replicate_succ, List.replicate_zero, List.cons_append, List.nil_append]; exact rfl) ?_
    repeat' (first
      | with_reducible refine QX.next ?_ | with_reducible refine WC.seq ?_ | with_reducible refine WC.region ?_ | with_reducible refine WC.block ?_ | with_reducible refine QX.bnorm ?_ | with_reducible refine QX.bret ?_ | with_reducible refine QX.ret ?_ | with_reducible refine QX.exit ?_ | with_reducible refine QX.bsame ?_ | with_reducible refine QX.bother rfl ?_
      | with_reducible refine WO.nil ?_ | with_reducible refine WC.skip ?_ | with_reducible refine WC.ret ?_ | with_reducible refine WC.exit ?_ | ((with_reducible refine WC.id ?_); first | refine WC.condT rfl ?_ | refine WC.condF rfl ?_)
      | (refine WC.quietG hg ?_; clear hg) | ((with_reducible refine WQ.nilG ?_); intro w hg)
      | ((with_reducible refine WQ.cid ?_); first | refine WQ.xG ?_ | refine WQ.pure ?_)
      | ((with_reducible refine WQ.gid ?_); first | refine WQ.on rfl ?_ | refine WQ.offN rfl rfl ?_)
      | ((with_reducible refine WO.cid ?_); first
        | refine WO.x ?_ | (refine op_alloc hg ?_; clear hg; intro b w hg; refine WO.fr ?_) | (refine op_boxA hg ?_; clear hg; intro b w hg; refine WO.fr ?_) | (refine op_box1 hg ?_; clear hg; intro b w hg; refine WO.fr ?_)
        | (refine op_store hg ?_; clear hg; intro w hg; refine WO.fr ?_; try simp only [List.set_cons_succ, List.set_cons_zero] at hg)
        | (refine op_storeA hg ?_; clear hg; intro w hg; refine WO.fr ?_; try simp only [over, List.take_zero, List.take_succ_cons, List.drop_zero, List.drop_succ_cons, List.nil_append, List.cons_append, List.append_nil, List.length_cons, List.length_nil, Nat.zero_add, Nat.reduceAdd, splice, cellsL] at hg)
        | (refine op_pure hg ?_; clear hg; intro w hg; refine WO.fr ?_) | (refine op_pureB hg ?_; clear hg; intro w hg c hc; cases c <;> refine WO.fr ?_))
      | ((with_reducible refine WO.gid ?_); first | refine WO.on rfl ?_ | refine WO.offN rfl rfl ?_))
    exact ret1 rfl ⟨rfl, hg.drop⟩
  have hb := (right_iff.1 hr).1
  simp only [Prm.enc] at p3 p4 ⊢
  clear p1
  refine enter Try.func7 rfl (by simp only [Try.ntmps7, List.length_cons, List.length_nil, Nat.reduceAdd, Nat.reduceSub, List.replicate_succ, List.replicate_zero, List.cons_append, List.nil_append]; exact rfl) ?_
  repeat' (first
    | with_reducible refine QX.next ?_ | with_reducible refine WC.seq ?_ | with_reducible refine WC.region ?_ | with_reducible refine WC.block ?_ | with_reducible refine QX.bnorm ?_ | with_reducible refine QX.bret ?_ | with_reducible refine QX.ret ?_ | with_reducible refine QX.exit ?_ | with_reducible refine QX.bsame ?_ | with_reducible refine QX.bother rfl ?_
    | with_reducible refine WO.nil ?_ | with_reducible refine WC.skip ?_ | with_reducible refine WC.ret ?_ | with_reducible refine WC.exit ?_ | ((with_reducible refine WC.id ?_); first | refine WC.condT rfl ?_ | refine WC.condF rfl ?_)
    | (refine WC.quietG hg ?_; clear hg) | ((with_reducible refine WQ.nilG ?_); intro w hg)
    | ((with_reducible refine WQ.cid ?_); first | refine WQ.xG ?_ | refine WQ.pure ?_)
    | ((with_reducible refine WQ.gid ?_); first | refine WQ.on rfl ?_ | refine WQ.offN rfl rfl ?_)
    | ((with_reducible refine WO.cid ?_); first
      | refine WO.x ?_ | (refine op_alloc hg ?_; clear hg; intro b w hg; refine WO.fr ?_) | (refine op_boxA hg ?_; clear hg; intro b w hg; refine WO.fr ?_) | (refine op_box1 hg ?_; clear hg; intro b w hg; refine WO.fr ?_)
      | (refine op_store hg ?_; clear hg; intro w hg; refine WO.fr ?_; try simp only [List.set_cons_succ, List.set_cons_zero] at hg)
      | (refine op_storeA hg ?_; clear hg; intro w hg; refine WO.fr ?_; try simp only [over, List.take_zero, List.take_succ_cons, List.drop_zero, List.drop_succ_cons, List.nil_append, List.cons_append, List.append_nil, List.length_cons, List.length_nil, Nat.zero_add, Nat.reduceAdd, splice, cellsL] at hg)
      | (refine op_pure hg ?_; clear hg; intro w hg; refine WO.fr ?_) | (refine op_pureB hg ?_; clear hg; intro w hg c hc; cases c <;> refine WO.fr ?_))
    | ((with_reducible refine WO.gid ?_); first | refine WO.on rfl ?_ | refine WO.offN rfl rfl ?_))
  rename_i bp _ _
  obtain ⟨bq, rfl⟩ : ∃ z, z = b := ⟨b, rfl⟩
  refine op_call (wNew_spec w p hr) ?_
  rintro _ w2 ⟨pw, f, rfl, hF, hg2⟩
  replace hg : Goes w0 [] [f, [(bq, .cells [.int .i64 qx, .int .i64 qy].toArray 74 (0, 0))], [(bp, .cells [.int .i64 p.bytes, .int .i64 p.trail, .int .i64 p.marks, .int .i64 p.ahead, .int .i64 p.tickets, .int .i64 p.retries, .int .i64 p.step].toArray 59 (0, 0))]] w2 := hg.call0 hg2
  clear hg2
  refine ⟨_, rfl, ?_⟩
  refine WO.fr ?_
  have hW0 : WOK p.bytes WS.zero := WOK.zero hr
  repeat' (first
    | with_reducible refine QX.next ?_ | with_reducible refine WC.seq ?_ | with_reducible refine WC.region ?_ | with_reducible refine WC.block ?_ | with_reducible refine QX.bnorm ?_ | with_reducible refine QX.bret ?_ | with_reducible refine QX.ret ?_ | with_reducible refine QX.exit ?_ | with_reducible refine QX.bsame ?_ | with_reducible refine QX.bother rfl ?_
    | with_reducible refine WO.nil ?_ | with_reducible refine WC.skip ?_ | with_reducible refine WC.ret ?_ | with_reducible refine WC.exit ?_ | ((with_reducible refine WC.id ?_); first | refine WC.condT rfl ?_ | refine WC.condF rfl ?_)
    | (refine WC.quietG hg ?_; clear hg) | ((with_reducible refine WQ.nilG ?_); intro w hg)
    | ((with_reducible refine WQ.cid ?_); first | refine WQ.xG ?_ | refine WQ.pure ?_)
    | ((with_reducible refine WQ.gid ?_); first | refine WQ.on rfl ?_ | refine WQ.offN rfl rfl ?_)
    | ((with_reducible refine WO.cid ?_); first
      | refine WO.x ?_ | (refine op_alloc hg ?_; clear hg; intro b w hg; refine WO.fr ?_) | (refine op_boxA hg ?_; clear hg; intro b w hg; refine WO.fr ?_) | (refine op_box1 hg ?_; clear hg; intro b w hg; refine WO.fr ?_)
      | (refine op_store hg ?_; clear hg; intro w hg; refine WO.fr ?_; try simp only [List.set_cons_succ, List.set_cons_zero] at hg)
      | (refine op_storeA hg ?_; clear hg; intro w hg; refine WO.fr ?_; try simp only [over, List.take_zero, List.take_succ_cons, List.drop_zero, List.drop_succ_cons, List.nil_append, List.cons_append, List.append_nil, List.length_cons, List.length_nil, Nat.zero_add, Nat.reduceAdd, splice, cellsL] at hg)
      | (refine op_pure hg ?_; clear hg; intro w hg; refine WO.fr ?_) | (refine op_pureB hg ?_; clear hg; intro w hg c hc; cases c <;> refine WO.fr ?_))
    | ((with_reducible refine WO.gid ?_); first | refine WO.on rfl ?_ | refine WO.offN rfl rfl ?_))
  obtain ⟨pm, rfl⟩ : ∃ z, z = b := ⟨b, rfl⟩
  clear p2 p3 p4
  refine WC.loopS [6, 11, 12, 13, 14, 15, 63, 64, 65, 66, 67, 68, 69, 70, 71, 72, 73, 74, 75, 76, 77, 78, 79, 80, 81, 82, 83, 84, 85, 86, 87, 88, 89, 90, 91, 92, 93, 94, 95, 96, 97, 98, 99, 100, 101, 102, 103, 104, 105, 106, 107, 108, 109, 110, 111, 112, 113, 114, 115, 116, 117, 118, 119, 120, 121, 122, 123, 124, 125, 126, 127, 128, 129, 130, 131, 132, 133, 134, 135, 136, 137, 138, 139, 140, 141, 142, 143, 144, 145, 146, 147, 148, 149, 150, 151, 152, 153] (fun xs d w => ∃ (i : Nat) (s : WS) (f fd : Frag), d = [] ∧ (gt xs 6) = .int .i64 i ∧ i ≤ its.length ∧ WinF pw p s f ∧ DocF pm p s fd ∧ WOK p.bytes s ∧ s.all.length ≤ 100 * i ∧ Goes w0 [] [f, fd, [(bq, .cells [.int .i64 qx, .int .i64 qy].toArray 74 (0, 0))], [(bp, .cells [.int .i64 p.bytes, .int .i64 p.trail, .int .i64 p.marks, .int .i64 p.ahead, .int .i64 p.tickets, .int .i64 p.retries, .int .i64 p.step].toArray 59 (0, 0))]] w) (fun xs _ _ => its.length - (intOf (gt xs 6)).toNat) ?_ ?_
  · exact ⟨0, WS.zero, f, _, rfl, rfl, Nat.zero_le _, hF, docZeroK, hW0, Nat.le_refl _, ((((hg.front 3).front 3).front 2).front 3)⟩
  clear hg hF
  intro xs d w hlen hI K hK
  replace hlen := len_cons hlen
  obtain ⟨x6, xs, rfl, hlen⟩ := hlen
  replace hlen := len_cons hlen
  obtain ⟨x11, xs, rfl, hlen⟩ := hlen
  replace hlen := len_cons hlen
  obtain ⟨x12, xs, rfl, hlen⟩ := hlen
  replace hlen := len_cons hlen
  obtain ⟨x13, xs, rfl, hlen⟩ := hlen
  replace hlen := len_cons hlen
  obtain ⟨x14, xs, rfl, hlen⟩ := hlen
  replace hlen := len_cons hlen
  obtain ⟨x15, xs, rfl, hlen⟩ := hlen
  replace hlen := len_cons hlen
  obtain ⟨x63, xs, rfl, hlen⟩ := hlen
  replace hlen := len_cons hlen
  obtain ⟨x64, xs, rfl, hlen⟩ := hlen
  replace hlen := len_cons hlen
  obtain ⟨x65, xs, rfl, hlen⟩ := hlen
  replace hlen := len_cons hlen
  obtain ⟨x66, xs, rfl, hlen⟩ := hlen
  replace hlen := len_cons hlen
  obtain ⟨x67, xs, rfl, hlen⟩ := hlen
  replace hlen := len_cons hlen
  obtain ⟨x68, xs, rfl, hlen⟩ := hlen
  replace hlen := len_cons hlen
  obtain ⟨x69, xs, rfl, hlen⟩ := hlen
  replace hlen := len_cons hlen
  obtain ⟨x70, xs, rfl, hlen⟩ := hlen
  replace hlen := len_cons hlen
  obtain ⟨x71, xs, rfl, hlen⟩ := hlen
  replace hlen := len_cons hlen
  obtain ⟨x72, xs, rfl, hlen⟩ := hlen
  replace hlen := len_cons hlen
  obtain ⟨x73, xs, rfl, hlen⟩ := hlen
  replace hlen := len_cons hlen
  obtain ⟨x74, xs, rfl, hlen⟩ := hlen
  replace hlen := len_cons hlen
  obtain ⟨x75, xs, rfl, hlen⟩ := hlen
  replace hlen := len_cons hlen
  obtain ⟨x76, xs, rfl, hlen⟩ := hlen
  replace hlen := len_cons hlen
  obtain ⟨x77, xs, rfl, hlen⟩ := hlen
  replace hlen := len_cons hlen
  obtain ⟨x78, xs, rfl, hlen⟩ := hlen
  replace hlen := len_cons hlen
  obtain ⟨x79, xs, rfl, hlen⟩ := hlen
  replace hlen := len_cons hlen
  obtain ⟨x80, xs, rfl, hlen⟩ := hlen
  replace hlen := len_cons hlen
  obtain ⟨x81, xs, rfl, hlen⟩ := hlen
  replace hlen := len_cons hlen
  obtain ⟨x82, xs, rfl, hlen⟩ := hlen
  replace hlen := len_cons hlen
  obtain ⟨x83, xs, rfl, hlen⟩ := hlen
  replace hlen := len_cons hlen
  obtain ⟨x84, xs, rfl, hlen⟩ := hlen
  replace hlen := len_cons hlen
  obtain ⟨x85, xs, rfl, hlen⟩ := hlen
  replace hlen := len_cons hlen
  obtain ⟨x86, xs, rfl, hlen⟩ := hlen
  replace hlen := len_cons hlen
  obtain ⟨x87, xs, rfl, hlen⟩ := hlen
  replace hlen := len_cons hlen
  obtain ⟨x88, xs, rfl, hlen⟩ := hlen
  replace hlen := len_cons hlen
  obtain ⟨x89, xs, rfl, hlen⟩ := hlen
  replace hlen := len_cons hlen
  obtain ⟨x90, xs, rfl, hlen⟩ := hlen
  replace hlen := len_cons hlen
  obtain ⟨x91, xs, rfl, hlen⟩ := hlen
  replace hlen := len_cons hlen
  obtain ⟨x92, xs, rfl, hlen⟩ := hlen
  replace hlen := len_cons hlen
  obtain ⟨x93, xs, rfl, hlen⟩ := hlen
  replace hlen := len_cons hlen
  obtain ⟨x94, xs, rfl, hlen⟩ := hlen
  replace hlen := len_cons hlen
  obtain ⟨x95, xs, rfl, hlen⟩ := hlen
  replace hlen := len_cons hlen
  obtain ⟨x96, xs, rfl, hlen⟩ := hlen
  replace hlen := len_cons hlen
  obtain ⟨x97, xs, rfl, hlen⟩ := hlen
  replace hlen := len_cons hlen
  obtain ⟨x98, xs, rfl, hlen⟩ := hlen
  replace hlen := len_cons hlen
  obtain ⟨x99, xs, rfl, hlen⟩ := hlen
  replace hlen := len_cons hlen
  obtain ⟨x100, xs, rfl, hlen⟩ := hlen
  replace hlen := len_cons hlen
  obtain ⟨x101, xs, rfl, hlen⟩ := hlen
  replace hlen := len_cons hlen
  obtain ⟨x102, xs, rfl, hlen⟩ := hlen
  replace hlen := len_cons hlen
  obtain ⟨x103, xs, rfl, hlen⟩ := hlen
  replace hlen := len_cons hlen
  obtain ⟨x104, xs, rfl, hlen⟩ := hlen
  replace hlen := len_cons hlen
  obtain ⟨x105, xs, rfl, hlen⟩ := hlen
  replace hlen := len_cons hlen
  obtain ⟨x106, xs, rfl, hlen⟩ := hlen
  replace hlen := len_cons hlen
  obtain ⟨x107, xs, rfl, hlen⟩ := hlen
  replace hlen := len_cons hlen
  obtain ⟨x108, xs, rfl, hlen⟩ := hlen
  replace hlen := len_cons hlen
  obtain ⟨x109, xs, rfl, hlen⟩ := hlen
  replace hlen := len_cons hlen
  obtain ⟨x110, xs, rfl, hlen⟩ := hlen
  replace hlen := len_cons hlen
  obtain ⟨x111, xs, rfl, hlen⟩ := hlen
  replace hlen := len_cons hlen
  obtain ⟨x112, xs, rfl, hlen⟩ := hlen
  replace hlen := len_cons hlen
  obtain ⟨x113, xs, rfl, hlen⟩ := hlen
  replace hlen := len_cons hlen
  obtain ⟨x114, xs, rfl, hlen⟩ := hlen
  replace hlen := len_cons hlen
  obtain ⟨x115, xs, rfl, hlen⟩ := hlen
  replace hlen := len_cons hlen
  obtain ⟨x116, xs, rfl, hlen⟩ := hlen
  replace hlen := len_cons hlen
  obtain ⟨x117, xs, rfl, hlen⟩ := hlen
  replace hlen := len_cons hlen
  obtain ⟨x118, xs, rfl, hlen⟩ := hlen
  replace hlen := len_cons hlen
  obtain ⟨x119, xs, rfl, hlen⟩ := hlen
  replace hlen := len_cons hlen
  obtain ⟨x120, xs, rfl, hlen⟩ := hlen
  replace hlen := len_cons hlen
  obtain ⟨x121, xs, rfl, hlen⟩ := hlen
  replace hlen := len_cons hlen
  obtain ⟨x122, xs, rfl, hlen⟩ := hlen
  replace hlen := len_cons hlen
  obtain ⟨x123, xs, rfl, hlen⟩ := hlen
  replace hlen := len_cons hlen
  obtain ⟨x124, xs, rfl, hlen⟩ := hlen
  replace hlen := len_cons hlen
  obtain ⟨x125, xs, rfl, hlen⟩ := hlen
  replace hlen := len_cons hlen
  obtain ⟨x126, xs, rfl, hlen⟩ := hlen
  replace hlen := len_cons hlen
  obtain ⟨x127, xs, rfl, hlen⟩ := hlen
  replace hlen := len_cons hlen
  obtain ⟨x128, xs, rfl, hlen⟩ := hlen
  replace hlen := len_cons hlen
  obtain ⟨x129, xs, rfl, hlen⟩ := hlen
  replace hlen := len_cons hlen
  obtain ⟨x130, xs, rfl, hlen⟩ := hlen
  replace hlen := len_cons hlen
  obtain ⟨x131, xs, rfl, hlen⟩ := hlen
  replace hlen := len_cons hlen
  obtain ⟨x132, xs, rfl, hlen⟩ := hlen
  replace hlen := len_cons hlen
  obtain ⟨x133, xs, rfl, hlen⟩ := hlen
  replace hlen := len_cons hlen
  obtain ⟨x134, xs, rfl, hlen⟩ := hlen
  replace hlen := len_cons hlen
  obtain ⟨x135, xs, rfl, hlen⟩ := hlen
  replace hlen := len_cons hlen
  obtain ⟨x136, xs, rfl, hlen⟩ := hlen
  replace hlen := len_cons hlen
  obtain ⟨x137, xs, rfl, hlen⟩ := hlen
  replace hlen := len_cons hlen
  obtain ⟨x138, xs, rfl, hlen⟩ := hlen
  replace hlen := len_cons hlen
  obtain ⟨x139, xs, rfl, hlen⟩ := hlen
  replace hlen := len_cons hlen
  obtain ⟨x140, xs, rfl, hlen⟩ := hlen
  replace hlen := len_cons hlen
  obtain ⟨x141, xs, rfl, hlen⟩ := hlen
  replace hlen := len_cons hlen
  obtain ⟨x142, xs, rfl, hlen⟩ := hlen
  replace hlen := len_cons hlen
  obtain ⟨x143, xs, rfl, hlen⟩ := hlen
  replace hlen := len_cons hlen
  obtain ⟨x144, xs, rfl, hlen⟩ := hlen
  replace hlen := len_cons hlen
  obtain ⟨x145, xs, rfl, hlen⟩ := hlen
  replace hlen := len_cons hlen
  obtain ⟨x146, xs, rfl, hlen⟩ := hlen
  replace hlen := len_cons hlen
  obtain ⟨x147, xs, rfl, hlen⟩ := hlen
  replace hlen := len_cons hlen
  obtain ⟨x148, xs, rfl, hlen⟩ := hlen
  replace hlen := len_cons hlen
  obtain ⟨x149, xs, rfl, hlen⟩ := hlen
  replace hlen := len_cons hlen
  obtain ⟨x150, xs, rfl, hlen⟩ := hlen
  replace hlen := len_cons hlen
  obtain ⟨x151, xs, rfl, hlen⟩ := hlen
  replace hlen := len_cons hlen
  obtain ⟨x152, xs, rfl, hlen⟩ := hlen
  replace hlen := len_cons hlen
  obtain ⟨x153, xs, rfl, hlen⟩ := hlen
  replace hlen := len_nil hlen
  subst hlen
  refine WC.frame (by simp only [setAll, List.set_cons_succ, List.set_cons_zero]; exact rfl) ?_
  try simp only [gt] at hI
  obtain ⟨i, s, f, fd, rfl, rfl, hi, hF, hD, hW, hlen, hg⟩ := hI
  by_cases hlt : i < its.length
  rotate_left
  · obtain ⟨a1, cap1, fr, rfl, hR⟩ := hD
    replace hg := Goes.pair (hg.front 1)
    replace hg : Goes w0 [] [f, [(pm, .cells [.int .i64 p.bytes, .int .i64 p.trail, .int .i64 p.marks, .int .i64 p.ahead, .int .i64 p.tickets, .int .i64 p.retries, .int .i64 p.step, .string (str s.all), .int .i64 (s.low : Nat), .int .i64 (s.fl : Nat), .slice a1 s.ws.length cap1].toArray 71 (0, 0))], fr, [(bq, .cells [.int .i64 qx, .int .i64 qy].toArray 74 (0, 0))], [(bp, .cells [.int .i64 p.bytes, .int .i64 p.trail, .int .i64 p.marks, .int .i64 p.ahead, .int .i64 p.tickets, .int .i64 p.retries, .int .i64 p.step].toArray 59 (0, 0))]] w := (((((hg.front 4).front 4).front 3).front 3).front 4)
    have p1 := walive_spec
    have hs2 := hW.h2
    have hs1 := hW.h1
    have hzz := str_size s.all
    have p2 : ∀ {w Fs}, Goes w0 [] (f :: Fs) w → Calls Try.prog 33 #[.pointer (some ⟨pw, 0, none⟩), .int .i64 qx, .int .i64 qy] w _ := fun h => wText_spec qx qy hF h.owns1 hW (by omega)
    obtain ⟨A, hA⟩ : ∃ A : Nat, max qx (s.fl : Int) = A := ⟨(max qx (s.fl : Int)).toNat, by omega⟩
    by_cases hlt2 : max qx (s.fl : Int) < min qy ((str s.all).size : Nat)
    · obtain ⟨Bn, hBn⟩ : ∃ Bn : Nat, min qy ((str s.all).size : Nat) = Bn := ⟨(min qy ((str s.all).size : Nat)).toNat, by omega⟩
      have hT : textV s.all s.fl qx qy = (s.all.take Bn).drop A := by
        unfold textV
        rw [← hzz, hA, hBn, Int.toNat_natCast, Int.toNat_natCast]
      rw [hT] at p2
      have hbs : (str ((s.all.take Bn).drop A) == str ((s.all.take Bn).drop A)) = true := by rw [str_beq]; simp
      repeat' (first
        | with_reducible refine QX.next ?_ | with_reducible refine WC.seq ?_ | with_reducible refine WC.region ?_ | with_reducible refine WC.block ?_ | with_reducible refine QX.bnorm ?_ | with_reducible refine QX.bret ?_ | with_reducible refine QX.ret ?_ | with_reducible refine QX.exit ?_ | with_reducible refine QX.bsame ?_ | with_reducible refine QX.bother rfl ?_
        | with_reducible refine WO.nil ?_ | with_reducible refine WC.skip ?_ | with_reducible refine WC.ret ?_ | with_reducible refine WC.exit ?_ | ((with_reducible refine WC.id ?_); first | refine WC.condT rfl ?_ | refine WC.condF rfl ?_)
        | (refine WC.quietG hg ?_; clear hg) | ((with_reducible refine WQ.nilG ?_); intro w hg)
        | ((with_reducible refine WQ.cid ?_); first | refine WQ.xG ?_ | refine WQ.pure ?_)
        | ((with_reducible refine WQ.gid ?_); first | refine WQ.on rfl ?_ | refine WQ.offN rfl rfl ?_)
        | ((with_reducible refine WO.cid ?_); first
          | refine WO.x ?_ | (refine op_alloc hg ?_; clear hg; intro b w hg; refine WO.fr ?_) | (refine op_boxA hg ?_; clear hg; intro b w hg; refine WO.fr ?_) | (refine op_box1 hg ?_; clear hg; intro b w hg; refine WO.fr ?_)
          | (refine op_store hg ?_; clear hg; intro w hg; refine WO.fr ?_; try simp only [List.set_cons_succ, List.set_cons_zero] at hg)
          | (refine op_storeA hg ?_; clear hg; intro w hg; refine WO.fr ?_; try simp only [over, List.take_zero, List.take_succ_cons, List.drop_zero, List.drop_succ_cons, List.nil_append, List.cons_append, List.append_nil, List.length_cons, List.length_nil, Nat.zero_add, Nat.reduceAdd, splice, cellsL] at hg)
          | (refine op_pure hg ?_; clear hg; intro w hg; refine WO.fr ?_) | (refine op_pureB hg ?_; clear hg; intro w hg c hc; cases c <;> refine WO.fr ?_))
        | ((with_reducible refine WO.gid ?_); first | refine WO.on rfl ?_ | refine WO.offN rfl rfl ?_))
      refine op_strLH (i := A) (j := Bn) ?_ (ei := hA) (ej := hBn)
      refine WO.fr ?_
      repeat' (first
        | with_reducible refine QX.next ?_ | with_reducible refine WC.seq ?_ | with_reducible refine WC.region ?_ | with_reducible refine WC.block ?_ | with_reducible refine QX.bnorm ?_ | with_reducible refine QX.bret ?_ | with_reducible refine QX.ret ?_ | with_reducible refine QX.exit ?_ | with_reducible refine QX.bsame ?_ | with_reducible refine QX.bother rfl ?_
        | with_reducible refine WO.nil ?_ | with_reducible refine WC.skip ?_ | with_reducible refine WC.ret ?_ | with_reducible refine WC.exit ?_ | ((with_reducible refine WC.id ?_); first | refine WC.condT rfl ?_ | refine WC.condF rfl ?_)
        | (refine WC.quietG hg ?_; clear hg) | ((with_reducible refine WQ.nilG ?_); intro w hg)
        | ((with_reducible refine WQ.cid ?_); first | refine WQ.xG ?_ | refine WQ.pure ?_)
        | ((with_reducible refine WQ.gid ?_); first | refine WQ.on rfl ?_ | refine WQ.offN rfl rfl ?_)
        | ((with_reducible refine WO.cid ?_); first
          | refine WO.x ?_ | (refine op_alloc hg ?_; clear hg; intro b w hg; refine WO.fr ?_) | (refine op_boxA hg ?_; clear hg; intro b w hg; refine WO.fr ?_) | (refine op_box1 hg ?_; clear hg; intro b w hg; refine WO.fr ?_)
          | (refine op_store hg ?_; clear hg; intro w hg; refine WO.fr ?_; try simp only [List.set_cons_succ, List.set_cons_zero] at hg)
          | (refine op_storeA hg ?_; clear hg; intro w hg; refine WO.fr ?_; try simp only [over, List.take_zero, List.take_succ_cons, List.drop_zero, List.drop_succ_cons, List.nil_append, List.cons_append, List.append_nil, List.length_cons, List.length_nil, Nat.zero_add, Nat.reduceAdd, splice, cellsL] at hg)
          | (refine op_pure hg ?_; clear hg; intro w hg; refine WO.fr ?_) | (refine op_pureB hg ?_; clear hg; intro w hg c hc; cases c <;> refine WO.fr ?_))
        | ((with_reducible refine WO.gid ?_); first | refine WO.on rfl ?_ | refine WO.offN rfl rfl ?_))
      refine op_call (wAt_spec qx hF hg.owns1 hW) ?_
      rintro _ w ⟨⟨bv, rfl⟩, hg2⟩
      replace hg := hg.call00 hg2
      clear hg2
      refine ⟨_, rfl, ?_⟩
      refine WO.fr ?_
      by_cases hq1 : (s.fl : Int) ≤ qx
      · by_cases hq2 : qx < ((str s.all).size : Int)
        · rw [decide_eq_true hq1, decide_eq_true (by omega)]
          repeat' (first
            | with_reducible refine QX.next ?_ | with_reducible refine WC.seq ?_ | with_reducible refine WC.region ?_ | with_reducible refine WC.block ?_ | with_reducible refine QX.bnorm ?_ | with_reducible refine QX.bret ?_ | with_reducible refine QX.ret ?_ | with_reducible refine QX.exit ?_ | with_reducible refine QX.bsame ?_ | with_reducible refine QX.bother rfl ?_
            | with_reducible refine WO.nil ?_ | with_reducible refine WC.skip ?_ | with_reducible refine WC.ret ?_ | with_reducible refine WC.exit ?_ | ((with_reducible refine WC.id ?_); first | refine WC.condT rfl ?_ | refine WC.condF rfl ?_)
            | (refine WC.quietG hg ?_; clear hg) | ((with_reducible refine WQ.nilG ?_); intro w hg)
            | ((with_reducible refine WQ.cid ?_); first | refine WQ.xG ?_ | refine WQ.pure ?_)
            | ((with_reducible refine WQ.gid ?_); first | refine WQ.on rfl ?_ | refine WQ.offN rfl rfl ?_)
            | ((with_reducible refine WO.cid ?_); first
              | refine WO.x ?_ | (refine op_alloc hg ?_; clear hg; intro b w hg; refine WO.fr ?_) | (refine op_boxA hg ?_; clear hg; intro b w hg; refine WO.fr ?_) | (refine op_box1 hg ?_; clear hg; intro b w hg; refine WO.fr ?_)
              | (refine op_store hg ?_; clear hg; intro w hg; refine WO.fr ?_; try simp only [List.set_cons_succ, List.set_cons_zero] at hg)
              | (refine op_storeA hg ?_; clear hg; intro w hg; refine WO.fr ?_; try simp only [over, List.take_zero, List.take_succ_cons, List.drop_zero, List.drop_succ_cons, List.nil_append, List.cons_append, List.append_nil, List.length_cons, List.length_nil, Nat.zero_add, Nat.reduceAdd, splice, cellsL] at hg)
              | (refine op_pure hg ?_; clear hg; intro w hg; refine WO.fr ?_) | (refine op_pureB hg ?_; clear hg; intro w hg c hc; cases c <;> refine WO.fr ?_))
            | ((with_reducible refine WO.gid ?_); first | refine WO.on rfl ?_ | refine WO.offN rfl rfl ?_))
          rw [hbs]
          repeat' (first
            | with_reducible refine QX.next ?_ | with_reducible refine WC.seq ?_ | with_reducible refine WC.region ?_ | with_reducible refine WC.block ?_ | with_reducible refine QX.bnorm ?_ | with_reducible refine QX.bret ?_ | with_reducible refine QX.ret ?_ | with_reducible refine QX.exit ?_ | with_reducible refine QX.bsame ?_ | with_reducible refine QX.bother rfl ?_
            | with_reducible refine WO.nil ?_ | with_reducible refine WC.skip ?_ | with_reducible refine WC.ret ?_ | with_reducible refine WC.exit ?_ | ((with_reducible refine WC.id ?_); first | refine WC.condT rfl ?_ | refine WC.condF rfl ?_)
            | (refine WC.quietG hg ?_; clear hg) | ((with_reducible refine WQ.nilG ?_); intro w hg)
            | ((with_reducible refine WQ.cid ?_); first | refine WQ.xG ?_ | refine WQ.pure ?_)
            | ((with_reducible refine WQ.gid ?_); first | refine WQ.on rfl ?_ | refine WQ.offN rfl rfl ?_)
            | ((with_reducible refine WO.cid ?_); first
              | refine WO.x ?_ | (refine op_alloc hg ?_; clear hg; intro b w hg; refine WO.fr ?_) | (refine op_boxA hg ?_; clear hg; intro b w hg; refine WO.fr ?_) | (refine op_box1 hg ?_; clear hg; intro b w hg; refine WO.fr ?_)
              | (refine op_store hg ?_; clear hg; intro w hg; refine WO.fr ?_; try simp only [List.set_cons_succ, List.set_cons_zero] at hg)
              | (refine op_storeA hg ?_; clear hg; intro w hg; refine WO.fr ?_; try simp only [over, List.take_zero, List.take_succ_cons, List.drop_zero, List.drop_succ_cons, List.nil_append, List.cons_append, List.append_nil, List.length_cons, List.length_nil, Nat.zero_add, Nat.reduceAdd, splice, cellsL] at hg)
              | (refine op_pure hg ?_; clear hg; intro w hg; refine WO.fr ?_) | (refine op_pureB hg ?_; clear hg; intro w hg c hc; cases c <;> refine WO.fr ?_))
            | ((with_reducible refine WO.gid ?_); first | refine WO.on rfl ?_ | refine WO.offN rfl rfl ?_))
          exact ret1 rfl ⟨rfl, hg.drop⟩
        · exfalso; omega
      · rw [decide_eq_false hq1]
        repeat' (first
          | with_reducible refine QX.next ?_ | with_reducible refine WC.seq ?_ | with_reducible refine WC.region ?_ | with_reducible refine WC.block ?_ | with_reducible refine QX.bnorm ?_ | with_reducible refine QX.bret ?_ | with_reducible refine QX.ret ?_ | with_reducible refine QX.exit ?_ | with_reducible refine QX.bsame ?_ | with_reducible refine QX.bother rfl ?_
          | with_reducible refine WO.nil ?_ | with_reducible refine WC.skip ?_ | with_reducible refine WC.ret ?_ | with_reducible refine WC.exit ?_ | ((with_reducible refine WC.id ?_); first | refine WC.condT rfl ?_ | refine WC.condF rfl ?_)
          | (refine WC.quietG hg ?_; clear hg) | ((with_reducible refine WQ.nilG ?_); intro w hg)
          | ((with_reducible refine WQ.cid ?_); first | refine WQ.xG ?_ | refine WQ.pure ?_)
          | ((with_reducible refine WQ.gid ?_); first | refine WQ.on rfl ?_ | refine WQ.offN rfl rfl ?_)
          | ((with_reducible refine WO.cid ?_); first
            | refine WO.x ?_ | (refine op_alloc hg ?_; clear hg; intro b w hg; refine WO.fr ?_) | (refine op_boxA hg ?_; clear hg; intro b w hg; refine WO.fr ?_) | (refine op_box1 hg ?_; clear hg; intro b w hg; refine WO.fr ?_)
            | (refine op_store hg ?_; clear hg; intro w hg; refine WO.fr ?_; try simp only [List.set_cons_succ, List.set_cons_zero] at hg)
            | (refine op_storeA hg ?_; clear hg; intro w hg; refine WO.fr ?_; try simp only [over, List.take_zero, List.take_succ_cons, List.drop_zero, List.drop_succ_cons, List.nil_append, List.cons_append, List.append_nil, List.length_cons, List.length_nil, Nat.zero_add, Nat.reduceAdd, splice, cellsL] at hg)
            | (refine op_pure hg ?_; clear hg; intro w hg; refine WO.fr ?_) | (refine op_pureB hg ?_; clear hg; intro w hg c hc; cases c <;> refine WO.fr ?_))
          | ((with_reducible refine WO.gid ?_); first | refine WO.on rfl ?_ | refine WO.offN rfl rfl ?_))
        rw [hbs]
        repeat' (first
          | with_reducible refine QX.next ?_ | with_reducible refine WC.seq ?_ | with_reducible refine WC.region ?_ | with_reducible refine WC.block ?_ | with_reducible refine QX.bnorm ?_ | with_reducible refine QX.bret ?_ | with_reducible refine QX.ret ?_ | with_reducible refine QX.exit ?_ | with_reducible refine QX.bsame ?_ | with_reducible refine QX.bother rfl ?_
          | with_reducible refine WO.nil ?_ | with_reducible refine WC.skip ?_ | with_reducible refine WC.ret ?_ | with_reducible refine WC.exit ?_ | ((with_reducible refine WC.id ?_); first | refine WC.condT rfl ?_ | refine WC.condF rfl ?_)
          | (refine WC.quietG hg ?_; clear hg) | ((with_reducible refine WQ.nilG ?_); intro w hg)
          | ((with_reducible refine WQ.cid ?_); first | refine WQ.xG ?_ | refine WQ.pure ?_)
          | ((with_reducible refine WQ.gid ?_); first | refine WQ.on rfl ?_ | refine WQ.offN rfl rfl ?_)
          | ((with_reducible refine WO.cid ?_); first
            | refine WO.x ?_ | (refine op_alloc hg ?_; clear hg; intro b w hg; refine WO.fr ?_) | (refine op_boxA hg ?_; clear hg; intro b w hg; refine WO.fr ?_) | (refine op_box1 hg ?_; clear hg; intro b w hg; refine WO.fr ?_)
            | (refine op_store hg ?_; clear hg; intro w hg; refine WO.fr ?_; try simp only [List.set_cons_succ, List.set_cons_zero] at hg)
            | (refine op_storeA hg ?_; clear hg; intro w hg; refine WO.fr ?_; try simp only [over, List.take_zero, List.take_succ_cons, List.drop_zero, List.drop_succ_cons, List.nil_append, List.cons_append, List.append_nil, List.length_cons, List.length_nil, Nat.zero_add, Nat.reduceAdd, splice, cellsL] at hg)
            | (refine op_pure hg ?_; clear hg; intro w hg; refine WO.fr ?_) | (refine op_pureB hg ?_; clear hg; intro w hg c hc; cases c <;> refine WO.fr ?_))
          | ((with_reducible refine WO.gid ?_); first | refine WO.on rfl ?_ | refine WO.offN rfl rfl ?_))
        exact ret1 rfl ⟨rfl, hg.drop⟩
    · have hT : textV s.all s.fl qx qy = [] := by
        unfold textV
        rw [hA]
        exact List.drop_eq_nil_of_le (by rw [List.length_take]; omega)
      rw [hT] at p2
      repeat' (first
        | with_reducible refine QX.next ?_ | with_reducible refine WC.seq ?_ | with_reducible refine WC.region ?_ | with_reducible refine WC.block ?_ | with_reducible refine QX.bnorm ?_ | with_reducible refine QX.bret ?_ | with_reducible refine QX.ret ?_ | with_reducible refine QX.exit ?_ | with_reducible refine QX.bsame ?_ | with_reducible refine QX.bother rfl ?_
        | with_reducible refine WO.nil ?_ | with_reducible refine WC.skip ?_ | with_reducible refine WC.ret ?_ | with_reducible refine WC.exit ?_ | ((with_reducible refine WC.id ?_); first | refine WC.condT rfl ?_ | refine WC.condF rfl ?_)
        | (refine WC.quietG hg ?_; clear hg) | ((with_reducible refine WQ.nilG ?_); intro w hg)
        | ((with_reducible refine WQ.cid ?_); first | refine WQ.xG ?_ | refine WQ.pure ?_)
        | ((with_reducible refine WQ.gid ?_); first | refine WQ.on rfl ?_ | refine WQ.offN rfl rfl ?_)
        | ((with_reducible refine WO.cid ?_); first
          | refine WO.x ?_ | (refine op_alloc hg ?_; clear hg; intro b w hg; refine WO.fr ?_) | (refine op_boxA hg ?_; clear hg; intro b w hg; refine WO.fr ?_) | (refine op_box1 hg ?_; clear hg; intro b w hg; refine WO.fr ?_)
          | (refine op_store hg ?_; clear hg; intro w hg; refine WO.fr ?_; try simp only [List.set_cons_succ, List.set_cons_zero] at hg)
          | (refine op_storeA hg ?_; clear hg; intro w hg; refine WO.fr ?_; try simp only [over, List.take_zero, List.take_succ_cons, List.drop_zero, List.drop_succ_cons, List.nil_append, List.cons_append, List.append_nil, List.length_cons, List.length_nil, Nat.zero_add, Nat.reduceAdd, splice, cellsL] at hg)
          | (refine op_pure hg ?_; clear hg; intro w hg; refine WO.fr ?_) | (refine op_pureB hg ?_; clear hg; intro w hg c hc; cases c <;> refine WO.fr ?_))
        | ((with_reducible refine WO.gid ?_); first | refine WO.on rfl ?_ | refine WO.offN rfl rfl ?_))
      refine op_call (wAt_spec qx hF hg.owns1 hW) ?_
      rintro _ w ⟨⟨bv, rfl⟩, hg2⟩
      replace hg := hg.call00 hg2
      clear hg2
      refine ⟨_, rfl, ?_⟩
      refine WO.fr ?_
      by_cases hq1 : (s.fl : Int) ≤ qx
      · by_cases hq2 : qx < ((str s.all).size : Int)
        · rw [decide_eq_true hq1, decide_eq_true (by omega)]
          repeat' (first
            | with_reducible refine QX.next ?_ | with_reducible refine WC.seq ?_ | with_reducible refine WC.region ?_ | with_reducible refine WC.block ?_ | with_reducible refine QX.bnorm ?_ | with_reducible refine QX.bret ?_ | with_reducible refine QX.ret ?_ | with_reducible refine QX.exit ?_ | with_reducible refine QX.bsame ?_ | with_reducible refine QX.bother rfl ?_
            | with_reducible refine WO.nil ?_ | with_reducible refine WC.skip ?_ | with_reducible refine WC.ret ?_ | with_reducible refine WC.exit ?_ | ((with_reducible refine WC.id ?_); first | refine WC.condT rfl ?_ | refine WC.condF rfl ?_)
            | (refine WC.quietG hg ?_; clear hg) | ((with_reducible refine WQ.nilG ?_); intro w hg)
            | ((with_reducible refine WQ.cid ?_); first | refine WQ.xG ?_ | refine WQ.pure ?_)
            | ((with_reducible refine WQ.gid ?_); first | refine WQ.on rfl ?_ | refine WQ.offN rfl rfl ?_)
            | ((with_reducible refine WO.cid ?_); first
              | refine WO.x ?_ | (refine op_alloc hg ?_; clear hg; intro b w hg; refine WO.fr ?_) | (refine op_boxA hg ?_; clear hg; intro b w hg; refine WO.fr ?_) | (refine op_box1 hg ?_; clear hg; intro b w hg; refine WO.fr ?_)
              | (refine op_store hg ?_; clear hg; intro w hg; refine WO.fr ?_; try simp only [List.set_cons_succ, List.set_cons_zero] at hg)
              | (refine op_storeA hg ?_; clear hg; intro w hg; refine WO.fr ?_; try simp only [over, List.take_zero, List.take_succ_cons, List.drop_zero, List.drop_succ_cons, List.nil_append, List.cons_append, List.append_nil, List.length_cons, List.length_nil, Nat.zero_add, Nat.reduceAdd, splice, cellsL] at hg)
              | (refine op_pure hg ?_; clear hg; intro w hg; refine WO.fr ?_) | (refine op_pureB hg ?_; clear hg; intro w hg c hc; cases c <;> refine WO.fr ?_))
            | ((with_reducible refine WO.gid ?_); first | refine WO.on rfl ?_ | refine WO.offN rfl rfl ?_))
          exact ret1 rfl ⟨rfl, hg.drop⟩
        · rw [decide_eq_true hq1, decide_eq_false (by omega)]
          repeat' (first
            | with_reducible refine QX.next ?_ | with_reducible refine WC.seq ?_ | with_reducible refine WC.region ?_ | with_reducible refine WC.block ?_ | with_reducible refine QX.bnorm ?_ | with_reducible refine QX.bret ?_ | with_reducible refine QX.ret ?_ | with_reducible refine QX.exit ?_ | with_reducible refine QX.bsame ?_ | with_reducible refine QX.bother rfl ?_
            | with_reducible refine WO.nil ?_ | with_reducible refine WC.skip ?_ | with_reducible refine WC.ret ?_ | with_reducible refine WC.exit ?_ | ((with_reducible refine WC.id ?_); first | refine WC.condT rfl ?_ | refine WC.condF rfl ?_)
            | (refine WC.quietG hg ?_; clear hg) | ((with_reducible refine WQ.nilG ?_); intro w hg)
            | ((with_reducible refine WQ.cid ?_); first | refine WQ.xG ?_ | refine WQ.pure ?_)
            | ((with_reducible refine WQ.gid ?_); first | refine WQ.on rfl ?_ | refine WQ.offN rfl rfl ?_)
            | ((with_reducible refine WO.cid ?_); first
              | refine WO.x ?_ | (refine op_alloc hg ?_; clear hg; intro b w hg; refine WO.fr ?_) | (refine op_boxA hg ?_; clear hg; intro b w hg; refine WO.fr ?_) | (refine op_box1 hg ?_; clear hg; intro b w hg; refine WO.fr ?_)
              | (refine op_store hg ?_; clear hg; intro w hg; refine WO.fr ?_; try simp only [List.set_cons_succ, List.set_cons_zero] at hg)
              | (refine op_storeA hg ?_; clear hg; intro w hg; refine WO.fr ?_; try simp only [over, List.take_zero, List.take_succ_cons, List.drop_zero, List.drop_succ_cons, List.nil_append, List.cons_append, List.append_nil, List.length_cons, List.length_nil, Nat.zero_add, Nat.reduceAdd, splice, cellsL] at hg)
              | (refine op_pure hg ?_; clear hg; intro w hg; refine WO.fr ?_) | (refine op_pureB hg ?_; clear hg; intro w hg c hc; cases c <;> refine WO.fr ?_))
            | ((with_reducible refine WO.gid ?_); first | refine WO.on rfl ?_ | refine WO.offN rfl rfl ?_))
          exact ret1 rfl ⟨rfl, hg.drop⟩
      · rw [decide_eq_false hq1]
        repeat' (first
          | with_reducible refine QX.next ?_ | with_reducible refine WC.seq ?_ | with_reducible refine WC.region ?_ | with_reducible refine WC.block ?_ | with_reducible refine QX.bnorm ?_ | with_reducible refine QX.bret ?_ | with_reducible refine QX.ret ?_ | with_reducible refine QX.exit ?_ | with_reducible refine QX.bsame ?_ | with_reducible refine QX.bother rfl ?_
          | with_reducible refine WO.nil ?_ | with_reducible refine WC.skip ?_ | with_reducible refine WC.ret ?_ | with_reducible refine WC.exit ?_ | ((with_reducible refine WC.id ?_); first | refine WC.condT rfl ?_ | refine WC.condF rfl ?_)
          | (refine WC.quietG hg ?_; clear hg) | ((with_reducible refine WQ.nilG ?_); intro w hg)
          | ((with_reducible refine WQ.cid ?_); first | refine WQ.xG ?_ | refine WQ.pure ?_)
          | ((with_reducible refine WQ.gid ?_); first | refine WQ.on rfl ?_ | refine WQ.offN rfl rfl ?_)
          | ((with_reducible refine WO.cid ?_); first
            | refine WO.x ?_ | (refine op_alloc hg ?_; clear hg; intro b w hg; refine WO.fr ?_) | (refine op_boxA hg ?_; clear hg; intro b w hg; refine WO.fr ?_) | (refine op_box1 hg ?_; clear hg; intro b w hg; refine WO.fr ?_)
            | (refine op_store hg ?_; clear hg; intro w hg; refine WO.fr ?_; try simp only [List.set_cons_succ, List.set_cons_zero] at hg)
            | (refine op_storeA hg ?_; clear hg; intro w hg; refine WO.fr ?_; try simp only [over, List.take_zero, List.take_succ_cons, List.drop_zero, List.drop_succ_cons, List.nil_append, List.cons_append, List.append_nil, List.length_cons, List.length_nil, Nat.zero_add, Nat.reduceAdd, splice, cellsL] at hg)
            | (refine op_pure hg ?_; clear hg; intro w hg; refine WO.fr ?_) | (refine op_pureB hg ?_; clear hg; intro w hg c hc; cases c <;> refine WO.fr ?_))
          | ((with_reducible refine WO.gid ?_); first | refine WO.on rfl ?_ | refine WO.offN rfl rfl ?_))
        exact ret1 rfl ⟨rfl, hg.drop⟩
  obtain ⟨bs, ks, rfl, _, hrow⟩ := hS.at (i := i) (r := its[i].enc) (by simp [hlt])
  have ht100 := hl1 its[i] (List.getElem_mem hlt)
  generalize its[i] = y at hrow ht100
  have r1 : ∀ {w Fs}, Goes w0 [] Fs w → Cells w ⟨bs, ks + i * 11, none⟩ [.int .i64 y.kind, .string (str y.text), .int .i64 y.n, .int .i64 y.at', .int .i64 y.md, .int .i64 y.tok.kind, .int .i64 y.tok.rule, .int .i64 y.tok.fr, .int .i64 y.tok.at', .int .i64 y.tok.to, .int .i64 y.tok.mode] := fun h => h.cellsOld hrow (by simp)
  clear hrow
  repeat' (first
    | with_reducible refine QX.next ?_ | with_reducible refine WC.seq ?_ | with_reducible refine WC.region ?_ | with_reducible refine WC.block ?_ | with_reducible refine QX.bnorm ?_ | with_reducible refine QX.bret ?_ | with_reducible refine QX.ret ?_ | with_reducible refine QX.exit ?_ | with_reducible refine QX.bsame ?_ | with_reducible refine QX.bother rfl ?_
    | with_reducible refine WO.nil ?_ | with_reducible refine WC.skip ?_ | with_reducible refine WC.ret ?_ | with_reducible refine WC.exit ?_ | ((with_reducible refine WC.id ?_); first | refine WC.condT rfl ?_ | refine WC.condF rfl ?_)
    | ((with_reducible refine WQ.cid ?_); first | refine WQ.xG ?_ | refine WQ.pure ?_)
    | ((with_reducible refine WQ.gid ?_); first | refine WQ.on rfl ?_ | refine WQ.offN rfl rfl ?_)
    | ((with_reducible refine WO.cid ?_); first
      | refine WO.x ?_ | (refine op_alloc hg ?_; clear hg; intro b w hg; refine WO.fr ?_) | (refine op_boxA hg ?_; clear hg; intro b w hg; refine WO.fr ?_) | (refine op_box1 hg ?_; clear hg; intro b w hg; refine WO.fr ?_)
      | (refine op_store hg ?_; clear hg; intro w hg; refine WO.fr ?_; try simp only [List.set_cons_succ, List.set_cons_zero] at hg)
      | (refine op_storeA hg ?_; clear hg; intro w hg; refine WO.fr ?_; try simp only [over, List.take_zero, List.take_succ_cons, List.drop_zero, List.drop_succ_cons, List.nil_append, List.cons_append, List.append_nil, List.length_cons, List.length_nil, Nat.zero_add, Nat.reduceAdd, splice, cellsL] at hg)
      | (refine op_pure hg ?_; clear hg; intro w hg; refine WO.fr ?_) | (refine op_pureB hg ?_; clear hg; intro w hg c hc; cases c <;> refine WO.fr ?_))
    | ((with_reducible refine WO.gid ?_); first | refine WO.on rfl ?_ | refine WO.offN rfl rfl ?_))
  obtain ⟨ba, rfl⟩ : ∃ z, z = b := ⟨b, rfl⟩
  have t1 : ∀ {w : World}, w.heap[ba]? = some (.cells (List.toArray [.int .i64 y.kind, .string (str y.text), .int .i64 y.n, .int .i64 y.at', .int .i64 y.md, .int .i64 y.tok.kind, .int .i64 y.tok.rule, .int .i64 y.tok.fr, .int .i64 y.tok.at', .int .i64 y.tok.to, .int .i64 y.tok.mode]) 66 (0, 0)) → Cells w ⟨ba, 0, none⟩ [.int .i64 y.kind, .string (str y.text), .int .i64 y.n, .int .i64 y.at', .int .i64 y.md, .int .i64 y.tok.kind, .int .i64 y.tok.rule, .int .i64 y.tok.fr, .int .i64 y.tok.at', .int .i64 y.tok.to, .int .i64 y.tok.mode] := fun h => heap_cells h rfl
  refine WC.drawn (fun w => w.heap[ba]? = some (.cells (List.toArray [.int .i64 y.kind, .string (str y.text), .int .i64 y.n, .int .i64 y.at', .int .i64 y.md, .int .i64 y.tok.kind, .int .i64 y.tok.rule, .int .i64 y.tok.fr, .int .i64 y.tok.at', .int .i64 y.tok.to, .int .i64 y.tok.mode]) 66 (0, 0))) [] hg ?_
  clear hg
  intro w hg
  have hS : (fun w => w.heap[ba]? = some (.cells (List.toArray [.int .i64 y.kind, .string (str y.text), .int .i64 y.n, .int .i64 y.at', .int .i64 y.md, .int .i64 y.tok.kind, .int .i64 y.tok.rule, .int .i64 y.tok.fr, .int .i64 y.tok.at', .int .i64 y.tok.to, .int .i64 y.tok.mode]) 66 (0, 0))) w := hg.own (ba, .cells (List.toArray [.int .i64 y.kind, .string (str y.text), .int .i64 y.n, .int .i64 y.at', .int .i64 y.md, .int .i64 y.tok.kind, .int .i64 y.tok.rule, .int .i64 y.tok.fr, .int .i64 y.tok.at', .int .i64 y.tok.to, .int .i64 y.tok.mode]) 66 (0, 0)) (by simp)
  refine WA.passM 0 hS ?_
  refine WA.passM 1 hS ?_
  refine WA.passM 2 hS ?_
  refine WA.only 3 ?_
  refine op_call (wplay_spec y hF hD (Goes.unpair (((((hg.front 4).front 4).front 2).front 4).front 4)).owns1 hW hW (by omega) (by omega) (by omega)) ?_
  rintro _ w ⟨bb, f2, fd2, rfl, hbt, hF2, hD2, hg2⟩
  replace hg := (Goes.unpair (((((hg.front 4).front 4).front 2).front 4).front 4)).call1 hg2
  obtain rfl := hbt rfl
  clear hg2 hbt hF hD
  have hW2 : WOK p.bytes (y.app p.bytes p.step s) := hW.app y
  have hlen2 := app_len (B := p.bytes) (st := p.step) (s := s) y
  generalize y.app p.bytes p.step s = s2 at hW2 hlen2 hF2 hD2
  obtain ⟨a1, cap1, fr, rfl, hR⟩ := hD2
  replace hg := Goes.pair (hg.front 1)
  replace hg : Goes w0 [] [f2, [(pm, .cells [.int .i64 p.bytes, .int .i64 p.trail, .int .i64 p.marks, .int .i64 p.ahead, .int .i64 p.tickets, .int .i64 p.retries, .int .i64 p.step, .string (str s2.all), .int .i64 (s2.low : Nat), .int .i64 (s2.fl : Nat), .slice a1 s2.ws.length cap1].toArray 71 (0, 0))], fr, [(ba, .cells (List.toArray [.int .i64 y.kind, .string (str y.text), .int .i64 y.n, .int .i64 y.at', .int .i64 y.md, .int .i64 y.tok.kind, .int .i64 y.tok.rule, .int .i64 y.tok.fr, .int .i64 y.tok.at', .int .i64 y.tok.to, .int .i64 y.tok.mode]) 66 (0, 0))], [(bq, .cells [.int .i64 qx, .int .i64 qy].toArray 74 (0, 0))], [(bp, .cells [.int .i64 p.bytes, .int .i64 p.trail, .int .i64 p.marks, .int .i64 p.ahead, .int .i64 p.tickets, .int .i64 p.retries, .int .i64 p.step].toArray 59 (0, 0))]] w := ((((((hg.front 5).front 5).front 5).front 4).front 4).front 5)
  have hs1 := hW2.h1; have hs2 := hW2.h2; have hs3 := hW2.h3; have hs4 := hW2.h4
  have hzz := str_size s2.all
  clear t1 hS
  refine ⟨_, rfl, ?_⟩
  refine WO.fr ?_
  have p1 : ∀ {w Fs}, Goes w0 [] (f2 :: Fs) w → Calls Try.prog 28 #[.pointer (some ⟨pw, 0, none⟩)] w _ := fun h => wLow_spec hF2 h.owns1
  have p2 : ∀ {w Fs}, Goes w0 [] (f2 :: Fs) w → Calls Try.prog 31 #[.pointer (some ⟨pw, 0, none⟩)] w _ := fun h => wFloor_spec hF2 h.owns1
  have p3 : ∀ {w Fs}, Goes w0 [] (f2 :: Fs) w → Calls Try.prog 30 #[.pointer (some ⟨pw, 0, none⟩)] w _ := fun h => wEnd_spec hF2 h.owns1
  have p4 : ∀ {w Fs}, Goes w0 [] (f2 :: Fs) w → Calls Try.prog 36 #[.pointer (some ⟨pw, 0, none⟩)] w _ := fun h => wRoom_spec hF2 h.owns1 ⟨by omega, by omega, by omega⟩
  have p5 : ∀ {w Fs}, Goes w0 [] (f2 :: Fs) w → Calls Try.prog 32 #[.pointer (some ⟨pw, 0, none⟩)] w _ := fun h => wCached_spec hF2 h.owns1
  refine WO.nilA (hg.own (ba, .cells (List.toArray [.int .i64 y.kind, .string (str y.text), .int .i64 y.n, .int .i64 y.at', .int .i64 y.md, .int .i64 y.tok.kind, .int .i64 y.tok.rule, .int .i64 y.tok.fr, .int .i64 y.tok.at', .int .i64 y.tok.to, .int .i64 y.tok.mode]) 66 (0, 0)) (by simp)) ?_
  refine WA.rest 4 hg (fun w hg => hg.own (ba, .cells (List.toArray [.int .i64 y.kind, .string (str y.text), .int .i64 y.n, .int .i64 y.at', .int .i64 y.md, .int .i64 y.tok.kind, .int .i64 y.tok.rule, .int .i64 y.tok.fr, .int .i64 y.tok.at', .int .i64 y.tok.to, .int .i64 y.tok.mode]) 66 (0, 0)) (by simp)) ?_
  clear hg
  simp only [List.drop_succ_cons, List.drop_zero]
  repeat' (first
    | with_reducible refine QX.next ?_ | with_reducible refine WC.seq ?_ | with_reducible refine WC.region ?_ | with_reducible refine WC.block ?_ | with_reducible refine QX.bnorm ?_ | with_reducible refine QX.bret ?_ | with_reducible refine QX.ret ?_ | with_reducible refine QX.exit ?_ | with_reducible refine QX.bsame ?_ | with_reducible refine QX.bother rfl ?_
    | with_reducible refine WO.nil ?_ | with_reducible refine WC.skip ?_ | with_reducible refine WC.ret ?_ | with_reducible refine WC.exit ?_ | ((with_reducible refine WC.id ?_); first | refine WC.condT rfl ?_ | refine WC.condF rfl ?_)
    | (refine WC.quietG hg ?_; clear hg) | ((with_reducible refine WQ.nilG ?_); intro w hg)
    | ((with_reducible refine WQ.cid ?_); first | refine WQ.xG ?_ | refine WQ.pure ?_)
    | ((with_reducible refine WQ.gid ?_); first | refine WQ.on rfl ?_ | refine WQ.offN rfl rfl ?_)
    | ((with_reducible refine WO.cid ?_); first
      | refine WO.x ?_ | (refine op_alloc hg ?_; clear hg; intro b w hg; refine WO.fr ?_) | (refine op_boxA hg ?_; clear hg; intro b w hg; refine WO.fr ?_) | (refine op_box1 hg ?_; clear hg; intro b w hg; refine WO.fr ?_)
      | (refine op_store hg ?_; clear hg; intro w hg; refine WO.fr ?_; try simp only [List.set_cons_succ, List.set_cons_zero] at hg)
      | (refine op_storeA hg ?_; clear hg; intro w hg; refine WO.fr ?_; try simp only [over, List.take_zero, List.take_succ_cons, List.drop_zero, List.drop_succ_cons, List.nil_append, List.cons_append, List.append_nil, List.length_cons, List.length_nil, Nat.zero_add, Nat.reduceAdd, splice, cellsL] at hg)
      | (refine op_pure hg ?_; clear hg; intro w hg; refine WO.fr ?_) | (refine op_pureB hg ?_; clear hg; intro w hg c hc; cases c <;> refine WO.fr ?_))
    | ((with_reducible refine WO.gid ?_); first | refine WO.on rfl ?_ | refine WO.offN rfl rfl ?_))
  clear p1 p2 p3 p4 p5
  refine op_call (wKnown_spec y.at' y.md hF2 hg.owns1) ?_
  rintro _ w ⟨rfl, hg2⟩
  replace hg := hg.callF hg2
  clear hg2
  have hget : ∀ {w : World}, Sl w a1 cap1 8 (s2.ws.map CE.enc) → Calls Try.prog 18 #[.slice a1 s2.ws.length cap1, .agg [.int .i64 y.at', .int .i64 y.md].toArray] w fun e w' => e = .returned (getV (rget s2.ws y.at' y.md)) ∧ Goes w [] [] w' := fun h => rGet_spec _ a1 cap1 s2.ws y.at' y.md h
  obtain ⟨tk, bb, hv⟩ := getV_eq (rget s2.ws y.at' y.md)
  rw [hv] at hget ⊢
  simp only [Tok.enc] at hget
  refine ⟨_, rfl, ?_⟩
  simp only [Tok.enc]
  refine WO.fr ?_
  repeat' (first
    | with_reducible refine QX.next ?_ | with_reducible refine WC.seq ?_ | with_reducible refine WC.region ?_ | with_reducible refine WC.block ?_ | with_reducible refine QX.bnorm ?_ | with_reducible refine QX.bret ?_ | with_reducible refine QX.ret ?_ | with_reducible refine QX.exit ?_ | with_reducible refine QX.bsame ?_ | with_reducible refine QX.bother rfl ?_
    | with_reducible refine WO.nil ?_ | with_reducible refine WC.skip ?_ | with_reducible refine WC.ret ?_ | with_reducible refine WC.exit ?_ | ((with_reducible refine WC.id ?_); first | refine WC.condT rfl ?_ | refine WC.condF rfl ?_)
    | ((with_reducible refine WQ.cid ?_); first | refine WQ.xG ?_ | refine WQ.pure ?_)
    | ((with_reducible refine WQ.gid ?_); first | refine WQ.on rfl ?_ | refine WQ.offN rfl rfl ?_)
    | ((with_reducible refine WO.cid ?_); first
      | refine WO.x ?_ | (refine op_alloc hg ?_; clear hg; intro b w hg; refine WO.fr ?_) | (refine op_boxA hg ?_; clear hg; intro b w hg; refine WO.fr ?_) | (refine op_box1 hg ?_; clear hg; intro b w hg; refine WO.fr ?_)
      | (refine op_store hg ?_; clear hg; intro w hg; refine WO.fr ?_; try simp only [List.set_cons_succ, List.set_cons_zero] at hg)
      | (refine op_storeA hg ?_; clear hg; intro w hg; refine WO.fr ?_; try simp only [over, List.take_zero, List.take_succ_cons, List.drop_zero, List.drop_succ_cons, List.nil_append, List.cons_append, List.append_nil, List.length_cons, List.length_nil, Nat.zero_add, Nat.reduceAdd, splice, cellsL] at hg)
      | (refine op_pure hg ?_; clear hg; intro w hg; refine WO.fr ?_) | (refine op_pureB hg ?_; clear hg; intro w hg c hc; cases c <;> refine WO.fr ?_))
    | ((with_reducible refine WO.gid ?_); first | refine WO.on rfl ?_ | refine WO.offN rfl rfl ?_))
  obtain ⟨bt, rfl⟩ : ∃ z, z = b := ⟨b, rfl⟩
  have s1 : ∀ {w : World}, (w.heap[pm]? = some (.cells [.int .i64 p.bytes, .int .i64 p.trail, .int .i64 p.marks, .int .i64 p.ahead, .int .i64 p.tickets, .int .i64 p.retries, .int .i64 p.step, .string (str s2.all), .int .i64 (s2.low : Nat), .int .i64 (s2.fl : Nat), .slice a1 s2.ws.length cap1].toArray 71 (0, 0)) ∧ w.heap[ba]? = some (.cells (List.toArray [.int .i64 y.kind, .string (str y.text), .int .i64 y.n, .int .i64 y.at', .int .i64 y.md, .int .i64 y.tok.kind, .int .i64 y.tok.rule, .int .i64 y.tok.fr, .int .i64 y.tok.at', .int .i64 y.tok.to, .int .i64 y.tok.mode]) 66 (0, 0))) → w.cell? ⟨pm, 10, none⟩ = some (.slice a1 s2.ws.length cap1) := fun h => heap_cell h.1 rfl
  have t1 : ∀ {w : World}, (w.heap[pm]? = some (.cells [.int .i64 p.bytes, .int .i64 p.trail, .int .i64 p.marks, .int .i64 p.ahead, .int .i64 p.tickets, .int .i64 p.retries, .int .i64 p.step, .string (str s2.all), .int .i64 (s2.low : Nat), .int .i64 (s2.fl : Nat), .slice a1 s2.ws.length cap1].toArray 71 (0, 0)) ∧ w.heap[ba]? = some (.cells (List.toArray [.int .i64 y.kind, .string (str y.text), .int .i64 y.n, .int .i64 y.at', .int .i64 y.md, .int .i64 y.tok.kind, .int .i64 y.tok.rule, .int .i64 y.tok.fr, .int .i64 y.tok.at', .int .i64 y.tok.to, .int .i64 y.tok.mode]) 66 (0, 0))) → Cells w ⟨ba, 3, none⟩ [.int .i64 y.at', .int .i64 y.md] := fun h => heap_cells h.2 rfl
  refine WC.drawn (fun w => w.heap[pm]? = some (.cells [.int .i64 p.bytes, .int .i64 p.trail, .int .i64 p.marks, .int .i64 p.ahead, .int .i64 p.tickets, .int .i64 p.retries, .int .i64 p.step, .string (str s2.all), .int .i64 (s2.low : Nat), .int .i64 (s2.fl : Nat), .slice a1 s2.ws.length cap1].toArray 71 (0, 0)) ∧ w.heap[ba]? = some (.cells (List.toArray [.int .i64 y.kind, .string (str y.text), .int .i64 y.n, .int .i64 y.at', .int .i64 y.md, .int .i64 y.tok.kind, .int .i64 y.tok.rule, .int .i64 y.tok.fr, .int .i64 y.tok.at', .int .i64 y.tok.to, .int .i64 y.tok.mode]) 66 (0, 0))) [8, 9, 11, 12] hg ?_
  clear hg
  intro w hg
  have hS : (fun w => w.heap[pm]? = some (.cells [.int .i64 p.bytes, .int .i64 p.trail, .int .i64 p.marks, .int .i64 p.ahead, .int .i64 p.tickets, .int .i64 p.retries, .int .i64 p.step, .string (str s2.all), .int .i64 (s2.low : Nat), .int .i64 (s2.fl : Nat), .slice a1 s2.ws.length cap1].toArray 71 (0, 0)) ∧ w.heap[ba]? = some (.cells (List.toArray [.int .i64 y.kind, .string (str y.text), .int .i64 y.n, .int .i64 y.at', .int .i64 y.md, .int .i64 y.tok.kind, .int .i64 y.tok.rule, .int .i64 y.tok.fr, .int .i64 y.tok.at', .int .i64 y.tok.to, .int .i64 y.tok.mode]) 66 (0, 0))) w := ⟨hg.own (pm, .cells [.int .i64 p.bytes, .int .i64 p.trail, .int .i64 p.marks, .int .i64 p.ahead, .int .i64 p.tickets, .int .i64 p.retries, .int .i64 p.step, .string (str s2.all), .int .i64 (s2.low : Nat), .int .i64 (s2.fl : Nat), .slice a1 s2.ws.length cap1].toArray 71 (0, 0)) (by simp), hg.own (ba, .cells (List.toArray [.int .i64 y.kind, .string (str y.text), .int .i64 y.n, .int .i64 y.at', .int .i64 y.md, .int .i64 y.tok.kind, .int .i64 y.tok.rule, .int .i64 y.tok.fr, .int .i64 y.tok.at', .int .i64 y.tok.to, .int .i64 y.tok.mode]) 66 (0, 0)) (by simp)⟩
  refine WA.passM 0 hS ?_
  refine WA.passM 1 hS ?_
  refine WA.passM 2 hS ?_
  refine WA.passM 4 hS ?_
  refine WA.passM 3 hS ?_
  refine WA.passM 5 hS ?_
  refine WA.two 6 10 ?_ ?_
  · skip
    refine op_pure hg ?_ (hc := hget (hR.sl (hg.front 3)))
    clear hg hS
    intro w hg
    refine WO.fr ?_
    have hS : (fun w => w.heap[pm]? = some (.cells [.int .i64 p.bytes, .int .i64 p.trail, .int .i64 p.marks, .int .i64 p.ahead, .int .i64 p.tickets, .int .i64 p.retries, .int .i64 p.step, .string (str s2.all), .int .i64 (s2.low : Nat), .int .i64 (s2.fl : Nat), .slice a1 s2.ws.length cap1].toArray 71 (0, 0)) ∧ w.heap[ba]? = some (.cells (List.toArray [.int .i64 y.kind, .string (str y.text), .int .i64 y.n, .int .i64 y.at', .int .i64 y.md, .int .i64 y.tok.kind, .int .i64 y.tok.rule, .int .i64 y.tok.fr, .int .i64 y.tok.at', .int .i64 y.tok.to, .int .i64 y.tok.mode]) 66 (0, 0))) w := ⟨hg.own (pm, .cells [.int .i64 p.bytes, .int .i64 p.trail, .int .i64 p.marks, .int .i64 p.ahead, .int .i64 p.tickets, .int .i64 p.retries, .int .i64 p.step, .string (str s2.all), .int .i64 (s2.low : Nat), .int .i64 (s2.fl : Nat), .slice a1 s2.ws.length cap1].toArray 71 (0, 0)) (by simp), hg.own (ba, .cells (List.toArray [.int .i64 y.kind, .string (str y.text), .int .i64 y.n, .int .i64 y.at', .int .i64 y.md, .int .i64 y.tok.kind, .int .i64 y.tok.rule, .int .i64 y.tok.fr, .int .i64 y.tok.at', .int .i64 y.tok.to, .int .i64 y.tok.mode]) 66 (0, 0)) (by simp)⟩
    refine WO.nilA hS ?_
    refine WA.passM 7 hS ?_
    refine WA.passL 8 ?_
    refine WA.passL 9 ?_
    refine WA.only 10 ?_
    refine op_alloc hg ?_
    clear hg hS
    intro bu w hg
    refine WO.fr ?_
    have hS : (fun w => w.heap[pm]? = some (.cells [.int .i64 p.bytes, .int .i64 p.trail, .int .i64 p.marks, .int .i64 p.ahead, .int .i64 p.tickets, .int .i64 p.retries, .int .i64 p.step, .string (str s2.all), .int .i64 (s2.low : Nat), .int .i64 (s2.fl : Nat), .slice a1 s2.ws.length cap1].toArray 71 (0, 0)) ∧ w.heap[ba]? = some (.cells (List.toArray [.int .i64 y.kind, .string (str y.text), .int .i64 y.n, .int .i64 y.at', .int .i64 y.md, .int .i64 y.tok.kind, .int .i64 y.tok.rule, .int .i64 y.tok.fr, .int .i64 y.tok.at', .int .i64 y.tok.to, .int .i64 y.tok.mode]) 66 (0, 0))) w := ⟨hg.own (pm, .cells [.int .i64 p.bytes, .int .i64 p.trail, .int .i64 p.marks, .int .i64 p.ahead, .int .i64 p.tickets, .int .i64 p.retries, .int .i64 p.step, .string (str s2.all), .int .i64 (s2.low : Nat), .int .i64 (s2.fl : Nat), .slice a1 s2.ws.length cap1].toArray 71 (0, 0)) (by simp), hg.own (ba, .cells (List.toArray [.int .i64 y.kind, .string (str y.text), .int .i64 y.n, .int .i64 y.at', .int .i64 y.md, .int .i64 y.tok.kind, .int .i64 y.tok.rule, .int .i64 y.tok.fr, .int .i64 y.tok.at', .int .i64 y.tok.to, .int .i64 y.tok.mode]) 66 (0, 0)) (by simp)⟩
    refine WO.nilA hS ?_
    refine WA.only 11 ?_
    refine op_storeA hg ?_
    clear hg
    intro w hg
    simp only [over, List.take_zero, List.take_succ_cons, List.drop_zero, List.drop_succ_cons, List.nil_append, List.cons_append, List.append_nil, List.length_cons, List.length_nil, Nat.zero_add, Nat.reduceAdd] at hg
    refine WO.fr ?_
    refine WO.nilL ?_
    refine WA.passL 12 ?_
    refine WA.nil ?_
    have e1 : eqL [.int, .int, .int, .int, .int, .int] [.int .i64 tk.kind, .int .i64 tk.rule, .int .i64 tk.fr, .int .i64 tk.at', .int .i64 tk.to, .int .i64 tk.mode] [.int .i64 tk.kind, .int .i64 tk.rule, .int .i64 tk.fr, .int .i64 tk.at', .int .i64 tk.to, .int .i64 tk.mode] = some true := (eqL_tokI tk tk).trans (by simp)
    repeat' (first
      | with_reducible refine QX.next ?_ | with_reducible refine WC.seq ?_ | with_reducible refine WC.region ?_ | with_reducible refine WC.block ?_ | with_reducible refine QX.bnorm ?_ | with_reducible refine QX.bret ?_ | with_reducible refine QX.ret ?_ | with_reducible refine QX.exit ?_ | with_reducible refine QX.bsame ?_ | with_reducible refine QX.bother rfl ?_
      | with_reducible refine WO.nil ?_ | with_reducible refine WC.skip ?_ | with_reducible refine WC.ret ?_ | with_reducible refine WC.exit ?_ | ((with_reducible refine WC.id ?_); first | refine WC.condT rfl ?_ | refine WC.condF rfl ?_)
      | (refine WC.quietG hg ?_; clear hg) | ((with_reducible refine WQ.nilG ?_); intro w hg)
      | ((with_reducible refine WQ.cid ?_); first | refine WQ.xG ?_ | refine WQ.pure ?_)
      | ((with_reducible refine WQ.gid ?_); first | refine WQ.on rfl ?_ | refine WQ.offN rfl rfl ?_)
      | ((with_reducible refine WO.cid ?_); first
        | refine WO.x ?_ | (refine op_alloc hg ?_; clear hg; intro b w hg; refine WO.fr ?_) | (refine op_boxA hg ?_; clear hg; intro b w hg; refine WO.fr ?_) | (refine op_box1 hg ?_; clear hg; intro b w hg; refine WO.fr ?_)
        | (refine op_store hg ?_; clear hg; intro w hg; refine WO.fr ?_; try simp only [List.set_cons_succ, List.set_cons_zero] at hg)
        | (refine op_storeA hg ?_; clear hg; intro w hg; refine WO.fr ?_; try simp only [over, List.take_zero, List.take_succ_cons, List.drop_zero, List.drop_succ_cons, List.nil_append, List.cons_append, List.append_nil, List.length_cons, List.length_nil, Nat.zero_add, Nat.reduceAdd, splice, cellsL] at hg)
        | (refine op_pure hg ?_; clear hg; intro w hg; refine WO.fr ?_) | (refine op_pureB hg ?_; clear hg; intro w hg c hc; cases c <;> refine WO.fr ?_))
      | ((with_reducible refine WO.gid ?_); first | refine WO.on rfl ?_ | refine WO.offN rfl rfl ?_))
    rw [show (bb == bb) = true from by simp]
    repeat' (first
      | with_reducible refine QX.next ?_ | with_reducible refine WC.seq ?_ | with_reducible refine WC.region ?_ | with_reducible refine WC.block ?_ | with_reducible refine QX.bnorm ?_ | with_reducible refine QX.bret ?_ | with_reducible refine QX.ret ?_ | with_reducible refine QX.exit ?_ | with_reducible refine QX.bsame ?_ | with_reducible refine QX.bother rfl ?_
      | with_reducible refine WO.nil ?_ | with_reducible refine WC.skip ?_ | with_reducible refine WC.ret ?_ | with_reducible refine WC.exit ?_ | ((with_reducible refine WC.id ?_); first | refine WC.condT rfl ?_ | refine WC.condF rfl ?_)
      | (refine WC.quietG hg ?_; clear hg) | ((with_reducible refine WQ.nilG ?_); intro w hg)
      | ((with_reducible refine WQ.cid ?_); first | refine WQ.xG ?_ | refine WQ.pure ?_)
      | ((with_reducible refine WQ.gid ?_); first | refine WQ.on rfl ?_ | refine WQ.offN rfl rfl ?_)
      | ((with_reducible refine WO.cid ?_); first
        | refine WO.x ?_ | (refine op_alloc hg ?_; clear hg; intro b w hg; refine WO.fr ?_) | (refine op_boxA hg ?_; clear hg; intro b w hg; refine WO.fr ?_) | (refine op_box1 hg ?_; clear hg; intro b w hg; refine WO.fr ?_)
        | (refine op_store hg ?_; clear hg; intro w hg; refine WO.fr ?_; try simp only [List.set_cons_succ, List.set_cons_zero] at hg)
        | (refine op_storeA hg ?_; clear hg; intro w hg; refine WO.fr ?_; try simp only [over, List.take_zero, List.take_succ_cons, List.drop_zero, List.drop_succ_cons, List.nil_append, List.cons_append, List.append_nil, List.length_cons, List.length_nil, Nat.zero_add, Nat.reduceAdd, splice, cellsL] at hg)
        | (refine op_pure hg ?_; clear hg; intro w hg; refine WO.fr ?_) | (refine op_pureB hg ?_; clear hg; intro w hg c hc; cases c <;> refine WO.fr ?_))
      | ((with_reducible refine WO.gid ?_); first | refine WO.on rfl ?_ | refine WO.offN rfl rfl ?_))
    with_reducible refine QX.norm ?_
    refine hK _ _ _ ?_ ?_ ?_
    · simp only [setAll, List.map_cons, List.map_nil, gt, List.set_cons_succ, List.set_cons_zero]
    all_goals try simp only [List.map_cons, List.map_nil, gt, intOf]
    · exact ⟨i + 1, s2, f2, _, trivial, rfl, hlt, hF2, ⟨a1, cap1, fr, rfl, hR⟩, hW2, by omega, ((((((((hg.front 5).front 2).front 2).front 7).front 7).front 7).front 7).front 7).fin4⟩
    · omega
  · skip
    refine op_alloc hg ?_
    clear hg hS
    intro bu w hg
    refine WO.fr ?_
    have hS : (fun w => w.heap[pm]? = some (.cells [.int .i64 p.bytes, .int .i64 p.trail, .int .i64 p.marks, .int .i64 p.ahead, .int .i64 p.tickets, .int .i64 p.retries, .int .i64 p.step, .string (str s2.all), .int .i64 (s2.low : Nat), .int .i64 (s2.fl : Nat), .slice a1 s2.ws.length cap1].toArray 71 (0, 0)) ∧ w.heap[ba]? = some (.cells (List.toArray [.int .i64 y.kind, .string (str y.text), .int .i64 y.n, .int .i64 y.at', .int .i64 y.md, .int .i64 y.tok.kind, .int .i64 y.tok.rule, .int .i64 y.tok.fr, .int .i64 y.tok.at', .int .i64 y.tok.to, .int .i64 y.tok.mode]) 66 (0, 0))) w := ⟨hg.own (pm, .cells [.int .i64 p.bytes, .int .i64 p.trail, .int .i64 p.marks, .int .i64 p.ahead, .int .i64 p.tickets, .int .i64 p.retries, .int .i64 p.step, .string (str s2.all), .int .i64 (s2.low : Nat), .int .i64 (s2.fl : Nat), .slice a1 s2.ws.length cap1].toArray 71 (0, 0)) (by simp), hg.own (ba, .cells (List.toArray [.int .i64 y.kind, .string (str y.text), .int .i64 y.n, .int .i64 y.at', .int .i64 y.md, .int .i64 y.tok.kind, .int .i64 y.tok.rule, .int .i64 y.tok.fr, .int .i64 y.tok.at', .int .i64 y.tok.to, .int .i64 y.tok.mode]) 66 (0, 0)) (by simp)⟩
    refine WO.nilA hS ?_
    refine WA.only 6 ?_
    refine op_pure hg ?_ (hc := hget (hR.sl (hg.front 4)))
    clear hg hS
    intro w hg
    refine WO.fr ?_
    have hS : (fun w => w.heap[pm]? = some (.cells [.int .i64 p.bytes, .int .i64 p.trail, .int .i64 p.marks, .int .i64 p.ahead, .int .i64 p.tickets, .int .i64 p.retries, .int .i64 p.step, .string (str s2.all), .int .i64 (s2.low : Nat), .int .i64 (s2.fl : Nat), .slice a1 s2.ws.length cap1].toArray 71 (0, 0)) ∧ w.heap[ba]? = some (.cells (List.toArray [.int .i64 y.kind, .string (str y.text), .int .i64 y.n, .int .i64 y.at', .int .i64 y.md, .int .i64 y.tok.kind, .int .i64 y.tok.rule, .int .i64 y.tok.fr, .int .i64 y.tok.at', .int .i64 y.tok.to, .int .i64 y.tok.mode]) 66 (0, 0))) w := ⟨hg.own (pm, .cells [.int .i64 p.bytes, .int .i64 p.trail, .int .i64 p.marks, .int .i64 p.ahead, .int .i64 p.tickets, .int .i64 p.retries, .int .i64 p.step, .string (str s2.all), .int .i64 (s2.low : Nat), .int .i64 (s2.fl : Nat), .slice a1 s2.ws.length cap1].toArray 71 (0, 0)) (by simp), hg.own (ba, .cells (List.toArray [.int .i64 y.kind, .string (str y.text), .int .i64 y.n, .int .i64 y.at', .int .i64 y.md, .int .i64 y.tok.kind, .int .i64 y.tok.rule, .int .i64 y.tok.fr, .int .i64 y.tok.at', .int .i64 y.tok.to, .int .i64 y.tok.mode]) 66 (0, 0)) (by simp)⟩
    refine WO.nilA hS ?_
    refine WA.passM 7 hS ?_
    refine WA.passL 8 ?_
    refine WA.passL 9 ?_
    refine WA.only 11 ?_
    refine op_storeA hg ?_
    clear hg
    intro w hg
    simp only [over, List.take_zero, List.take_succ_cons, List.drop_zero, List.drop_succ_cons, List.nil_append, List.cons_append, List.append_nil, List.length_cons, List.length_nil, Nat.zero_add, Nat.reduceAdd] at hg
    refine WO.fr ?_
    refine WO.nilL ?_
    refine WA.passL 12 ?_
    refine WA.nil ?_
    have e1 : eqL [.int, .int, .int, .int, .int, .int] [.int .i64 tk.kind, .int .i64 tk.rule, .int .i64 tk.fr, .int .i64 tk.at', .int .i64 tk.to, .int .i64 tk.mode] [.int .i64 tk.kind, .int .i64 tk.rule, .int .i64 tk.fr, .int .i64 tk.at', .int .i64 tk.to, .int .i64 tk.mode] = some true := (eqL_tokI tk tk).trans (by simp)
    repeat' (first
      | with_reducible refine QX.next ?_ | with_reducible refine WC.seq ?_ | with_reducible refine WC.region ?_ | with_reducible refine WC.block ?_ | with_reducible refine QX.bnorm ?_ | with_reducible refine QX.bret ?_ | with_reducible refine QX.ret ?_ | with_reducible refine QX.exit ?_ | with_reducible refine QX.bsame ?_ | with_reducible refine QX.bother rfl ?_
      | with_reducible refine WO.nil ?_ | with_reducible refine WC.skip ?_ | with_reducible refine WC.ret ?_ | with_reducible refine WC.exit ?_ | ((with_reducible refine WC.id ?_); first | refine WC.condT rfl ?_ | refine WC.condF rfl ?_)
      | (refine WC.quietG hg ?_; clear hg) | ((with_reducible refine WQ.nilG ?_); intro w hg)
      | ((with_reducible refine WQ.cid ?_); first | refine WQ.xG ?_ | refine WQ.pure ?_)
      | ((with_reducible refine WQ.gid ?_); first | refine WQ.on rfl ?_ | refine WQ.offN rfl rfl ?_)
      | ((with_reducible refine WO.cid ?_); first
        | refine WO.x ?_ | (refine op_alloc hg ?_; clear hg; intro b w hg; refine WO.fr ?_) | (refine op_boxA hg ?_; clear hg; intro b w hg; refine WO.fr ?_) | (refine op_box1 hg ?_; clear hg; intro b w hg; refine WO.fr ?_)
        | (refine op_store hg ?_; clear hg; intro w hg; refine WO.fr ?_; try simp only [List.set_cons_succ, List.set_cons_zero] at hg)
        | (refine op_storeA hg ?_; clear hg; intro w hg; refine WO.fr ?_; try simp only [over, List.take_zero, List.take_succ_cons, List.drop_zero, List.drop_succ_cons, List.nil_append, List.cons_append, List.append_nil, List.length_cons, List.length_nil, Nat.zero_add, Nat.reduceAdd, splice, cellsL] at hg)
        | (refine op_pure hg ?_; clear hg; intro w hg; refine WO.fr ?_) | (refine op_pureB hg ?_; clear hg; intro w hg c hc; cases c <;> refine WO.fr ?_))
      | ((with_reducible refine WO.gid ?_); first | refine WO.on rfl ?_ | refine WO.offN rfl rfl ?_))
    rw [show (bb == bb) = true from by simp]
    repeat' (first
      | with_reducible refine QX.next ?_ | with_reducible refine WC.seq ?_ | with_reducible refine WC.region ?_ | with_reducible refine WC.block ?_ | with_reducible refine QX.bnorm ?_ | with_reducible refine QX.bret ?_ | with_reducible refine QX.ret ?_ | with_reducible refine QX.exit ?_ | with_reducible refine QX.bsame ?_ | with_reducible refine QX.bother rfl ?_
      | with_reducible refine WO.nil ?_ | with_reducible refine WC.skip ?_ | with_reducible refine WC.ret ?_ | with_reducible refine WC.exit ?_ | ((with_reducible refine WC.id ?_); first | refine WC.condT rfl ?_ | refine WC.condF rfl ?_)
      | (refine WC.quietG hg ?_; clear hg) | ((with_reducible refine WQ.nilG ?_); intro w hg)
      | ((with_reducible refine WQ.cid ?_); first | refine WQ.xG ?_ | refine WQ.pure ?_)
      | ((with_reducible refine WQ.gid ?_); first | refine WQ.on rfl ?_ | refine WQ.offN rfl rfl ?_)
      | ((with_reducible refine WO.cid ?_); first
        | refine WO.x ?_ | (refine op_alloc hg ?_; clear hg; intro b w hg; refine WO.fr ?_) | (refine op_boxA hg ?_; clear hg; intro b w hg; refine WO.fr ?_) | (refine op_box1 hg ?_; clear hg; intro b w hg; refine WO.fr ?_)
        | (refine op_store hg ?_; clear hg; intro w hg; refine WO.fr ?_; try simp only [List.set_cons_succ, List.set_cons_zero] at hg)
        | (refine op_storeA hg ?_; clear hg; intro w hg; refine WO.fr ?_; try simp only [over, List.take_zero, List.take_succ_cons, List.drop_zero, List.drop_succ_cons, List.nil_append, List.cons_append, List.append_nil, List.length_cons, List.length_nil, Nat.zero_add, Nat.reduceAdd, splice, cellsL] at hg)
        | (refine op_pure hg ?_; clear hg; intro w hg; refine WO.fr ?_) | (refine op_pureB hg ?_; clear hg; intro w hg c hc; cases c <;> refine WO.fr ?_))
      | ((with_reducible refine WO.gid ?_); first | refine WO.on rfl ?_ | refine WO.offN rfl rfl ?_))
    with_reducible refine QX.norm ?_
    refine hK _ _ _ ?_ ?_ ?_
    · simp only [setAll, List.map_cons, List.map_nil, gt, List.set_cons_succ, List.set_cons_zero]
    all_goals try simp only [List.map_cons, List.map_nil, gt, intOf]
    · exact ⟨i + 1, s2, f2, _, trivial, rfl, hlt, hF2, ⟨a1, cap1, fr, rfl, hR⟩, hW2, by omega, ((((((((hg.front 5).front 2).front 2).front 7).front 7).front 7).front 7).front 7).fin4⟩
    · omega
end Go.Proofs.Ytdjepfpmoeecaaa
