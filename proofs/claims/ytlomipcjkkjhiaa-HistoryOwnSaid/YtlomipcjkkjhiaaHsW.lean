/- HistoryPlays: the law. -/
import Derived.Test.YtlomipcjkkjhiaaHsV
namespace Go.Proofs.Ytlomipcjkkjhiaa
open Go Go.RowKit
set_option maxRecDepth 10000
set_option linter.unusedSimpArgs false
set_option linter.unusedVariables false

set_option maxHeartbeats 16000000 in
theorem HistoryPlays_law (a : Option Addr) (cap : Nat) (its : List Act) (w0 : World) (hS : Sl w0 a cap 14 (its.map Act.enc)) :
    Calls Try.prog 3 #[.slice a its.length cap] w0 fun e w' => e = .returned (.bool true) ∧ Goes w0 [] [] w' := by
  have hg := Goes.refl w0
  have p1 := alive_spec
  refine enter Try.func3 rfl (by simp only [Try.ntmps3, List.length_cons, List.length_nil, Nat.reduceAdd, Nat.reduceSub, List.replicate_succ, List.replicate_zero, List.cons_append, List.nil_append]; exact rfl) ?_
  repeat' (first
    | with_reducible refine QX.next ?_ | with_reducible refine WC.seq ?_ | with_reducible refine WC.region ?_ | with_reducible refine WC.block ?_ | with_reducible refine QX.bnorm ?_ | with_reducible refine QX.bret ?_ | with_reducible refine QX.ret ?_ | with_reducible refine QX.exit ?_ | with_reducible refine QX.bsame ?_ | with_reducible refine QX.bother rfl ?_
    | with_reducible refine WO.nil ?_ | with_reducible refine WC.skip ?_ | with_reducible refine WC.ret ?_ | with_reducible refine WC.exit ?_ | ((with_reducible refine WC.id ?_); first | refine WC.condT rfl ?_ | refine WC.condF rfl ?_)
    | (refine WC.quietG hg ?_; clear hg) | ((with_reducible refine WQ.nilG ?_); intro w hg)
    | ((with_reducible refine WQ.cid ?_); first | refine WQ.xG ?_ | refine WQ.pure ?_)
    | ((with_reducible refine WQ.gid ?_); first | refine WQ.on rfl ?_ | refine WQ.offN rfl rfl ?_)
    | ((with_reducible refine WO.cid ?_); first
      | refine WO.x ?_ | (refine op_alloc hg ?_; clear hg; intro b w hg; refine WO.fr ?_) | (refine op_boxA hg ?_; clear hg; intro b w hg; refine WO.fr ?_) | (refine op_box1 hg ?_; clear hg; intro b w hg; refine WO.fr ?_)
      | (refine op_store hg ?_; clear hg; intro w hg; refine WO.fr ?_; try simp only [List.set_cons_succ, List.set_cons_zero] at hg)
      | (refine op_storeA hg ?_; clear hg; intro w hg; refine WO.fr ?_; try simp only [over, List.take_zero, List.take_succ_cons, List.drop_zero, List.drop_succ_cons, List.nil_append, List.cons_append, List.append_nil, List.length_cons, List.length_nil, Nat.zero_add, Nat.reduceAdd, splice, cellsL] at hg)
      | (refine op_pure hg ?_; clear hg; intro w hg; refine WO.fr ?_) | (refine op_pureB hg ?_; clear hg; intro w hg c hc; cases c <;> refine WO.fr ?_))
    | ((with_reducible refine WO.gid ?_); first | refine WO.on rfl ?_ | refine WO.offN rfl rfl ?_))
  refine op_call (light_spec _ a cap its (hS.goes hg)) ?_
  rintro _ w2 ⟨b, rfl, hb, hg2⟩
  replace hg := hg.call00 hg2
  clear hg2
  refine ⟨_, rfl, ?_⟩
  refine WO.fr ?_
  cases b with
  | false =>
    repeat' (first
      | with_reducible refine QX.next ?_ | with_reducible refine WC.seq ?_ | with_reducible refine WC.region ?_ | with_reducible refine WC.block ?_ | with_reducible refine QX.bnorm ?_ | with_reducible refine QX.bret ?_ | with_reducible refine QX.ret ?_ | with_reducible refine QX.exit ?_ | with_reducible refine QX.bsame ?_ | with_reducible refine QX.bother rfl ?_
      | with_reducible refine WO.nil ?_ | with_reducible refine WC.skip ?_ | with_reducible refine WC.ret ?_ | with_reducible refine WC.exit ?_ | ((with_reducible refine WC.id ?_); first | refine WC.condT rfl ?_ | refine WC.condF rfl ?_)
      | (refine WC.quietG hg ?_; clear hg) | ((with_reducible refine WQ.nilG ?_); intro w hg)
      | ((with_reducible refine WQ.cid ?_); first | refine WQ.xG ?_ | refine WQ.pure ?_)
      | ((with_reducible refine WQ.gid ?_); first | refine WQ.on rfl ?_ | refine WQ.offN rfl rfl ?_)
      | ((with_reducible refine WO.cid ?_); first
        | refine WO.x ?_ | (refine op_alloc hg ?_; clear hg; intro b w hg; refine WO.fr ?_) | (refine op_boxA hg ?_; clear hg; intro b w hg; refine WO.fr ?_) | (refine op_box1 hg ?_; clear hg; intro b w hg; refine WO.fr ?_)
        | (refine op_store hg ?_; clear hg; intro w hg; refine WO.fr ?_; try simp only [List.set_cons_succ, List.set_cons_zero] at hg)
        | (refine op_storeA hg ?_; clear hg; intro w hg; refine WO.fr ?_; try simp only [over, List.take_zero, List.take_succ_cons, List.drop_zero, List.drop_succ_cons, List.nil_append, List.cons_append, List.append_nil, List.length_cons, List.length_nil, Nat.zero_add, Nat.reduceAdd, splice, cellsL] at hg)
        | (refine op_pure hg ?_; clear hg; intro w hg; refine WO.fr ?_) | (refine op_pureB hg ?_; clear hg; intro w hg c hc; cases c <;> refine WO.fr ?_))
      | ((with_reducible refine WO.gid ?_); first | refine WO.on rfl ?_ | refine WO.offN rfl rfl ?_))
    exact ret1 rfl ⟨rfl, hg.drop⟩
  | true =>
  have hn := hb rfl
  clear p1
  repeat' (first
    | with_reducible refine QX.next ?_ | with_reducible refine WC.seq ?_ | with_reducible refine WC.region ?_ | with_reducible refine WC.block ?_ | with_reducible refine QX.bnorm ?_ | with_reducible refine QX.bret ?_ | with_reducible refine QX.ret ?_ | with_reducible refine QX.exit ?_ | with_reducible refine QX.bsame ?_ | with_reducible refine QX.bother rfl ?_
    | with_reducible refine WO.nil ?_ | with_reducible refine WC.skip ?_ | with_reducible refine WC.ret ?_ | with_reducible refine WC.exit ?_ | ((with_reducible refine WC.id ?_); first | refine WC.condT rfl ?_ | refine WC.condF rfl ?_)
    | (refine WC.quietG hg ?_; clear hg) | ((with_reducible refine WQ.nilG ?_); intro w hg)
    | ((with_reducible refine WQ.cid ?_); first | refine WQ.xG ?_ | refine WQ.pure ?_)
    | ((with_reducible refine WQ.gid ?_); first | refine WQ.on rfl ?_ | refine WQ.offN rfl rfl ?_)
    | ((with_reducible refine WO.cid ?_); first
      | refine WO.x ?_ | (refine op_alloc hg ?_; clear hg; intro b w hg; refine WO.fr ?_) | (refine op_boxA hg ?_; clear hg; intro b w hg; refine WO.fr ?_) | (refine op_box1 hg ?_; clear hg; intro b w hg; refine WO.fr ?_)
      | (refine op_store hg ?_; clear hg; intro w hg; refine WO.fr ?_; try simp only [List.set_cons_succ, List.set_cons_zero] at hg)
      | (refine op_storeA hg ?_; clear hg; intro w hg; refine WO.fr ?_; try simp only [over, List.take_zero, List.take_succ_cons, List.drop_zero, List.drop_succ_cons, List.nil_append, List.cons_append, List.append_nil, List.length_cons, List.length_nil, Nat.zero_add, Nat.reduceAdd, splice, cellsL] at hg)
      | (refine op_pure hg ?_; clear hg; intro w hg; refine WO.fr ?_) | (refine op_pureB hg ?_; clear hg; intro w hg c hc; cases c <;> refine WO.fr ?_))
    | ((with_reducible refine WO.gid ?_); first | refine WO.on rfl ?_ | refine WO.offN rfl rfl ?_))
  refine op_call (New_spec _) ?_
  rintro e w2 ⟨pl, h, rfl, hL, hg2⟩
  replace hg := hg.call0 hg2
  replace hg : Goes w0 [] [h] w2 := hg
  clear hg2
  refine ⟨_, rfl, ?_⟩
  refine WO.fr ?_
  repeat' (first
    | with_reducible refine QX.next ?_ | with_reducible refine WC.seq ?_ | with_reducible refine WC.region ?_ | with_reducible refine WC.block ?_ | with_reducible refine QX.bnorm ?_ | with_reducible refine QX.bret ?_ | with_reducible refine QX.ret ?_ | with_reducible refine QX.exit ?_ | with_reducible refine QX.bsame ?_ | with_reducible refine QX.bother rfl ?_
    | with_reducible refine WO.nil ?_ | with_reducible refine WC.skip ?_ | with_reducible refine WC.ret ?_ | with_reducible refine WC.exit ?_ | ((with_reducible refine WC.id ?_); first | refine WC.condT rfl ?_ | refine WC.condF rfl ?_)
    | (refine WC.quietG hg ?_; clear hg) | ((with_reducible refine WQ.nilG ?_); intro w hg)
    | ((with_reducible refine WQ.cid ?_); first | refine WQ.xG ?_ | refine WQ.pure ?_)
    | ((with_reducible refine WQ.gid ?_); first | refine WQ.on rfl ?_ | refine WQ.offN rfl rfl ?_)
    | ((with_reducible refine WO.cid ?_); first
      | refine WO.x ?_ | (refine op_alloc hg ?_; clear hg; intro b w hg; refine WO.fr ?_) | (refine op_boxA hg ?_; clear hg; intro b w hg; refine WO.fr ?_) | (refine op_box1 hg ?_; clear hg; intro b w hg; refine WO.fr ?_)
      | (refine op_store hg ?_; clear hg; intro w hg; refine WO.fr ?_; try simp only [List.set_cons_succ, List.set_cons_zero] at hg)
      | (refine op_storeA hg ?_; clear hg; intro w hg; refine WO.fr ?_; try simp only [over, List.take_zero, List.take_succ_cons, List.drop_zero, List.drop_succ_cons, List.nil_append, List.cons_append, List.append_nil, List.length_cons, List.length_nil, Nat.zero_add, Nat.reduceAdd, splice, cellsL] at hg)
      | (refine op_pure hg ?_; clear hg; intro w hg; refine WO.fr ?_) | (refine op_pureB hg ?_; clear hg; intro w hg c hc; cases c <;> refine WO.fr ?_))
    | ((with_reducible refine WO.gid ?_); first | refine WO.on rfl ?_ | refine WO.offN rfl rfl ?_))
  rename Nat => pm
  refine WC.loopS [2, 6, 7, 8, 9, 10, 11, 12, 13, 14, 24, 25, 26, 27, 28, 29, 30, 31, 32, 33, 34, 35, 36, 37, 38, 39, 40, 41, 42, 43, 44, 45, 46, 47, 48, 49, 50, 51, 52, 53, 54, 55, 56, 57, 58, 59, 60, 61, 62, 63, 64, 65, 66, 67, 68, 69, 70, 71, 72, 73, 74, 75, 76, 77, 78, 79, 80, 81, 82, 83, 84, 85, 86, 87, 88, 89, 90, 91, 92, 93, 94, 95, 96, 97, 98, 99, 100, 101, 102, 103, 104, 105, 106, 107, 108, 109, 110, 111, 112, 113, 114, 115, 116, 117, 118] (fun xs d w => ∃ (i : Nat) (L : LogS) (h1 h2 : Frag), d = [] ∧ (gt xs 10) = .int .i64 i ∧ i ≤ its.length ∧ LogF pl L h1 ∧ HF pm L.events h2 ∧ Inv L ∧ L.events.length ≤ i ∧ L.deeds.length ≤ i ∧ Goes w0 [] [h1, h2] w) (fun xs _ _ => its.length - (intOf (gt xs 10)).toNat) ?_ ?_
  · exact ⟨0, ⟨[], [], []⟩, h, [(pm, _)] ++ [], rfl, rfl, Nat.zero_le _, hL, ⟨none, 0, [], rfl, .nil⟩, Inv.empty, Nat.le_refl _, Nat.le_refl _, (hg.front 1)⟩
  clear hg hL h
  intro xs d w hlen hI K hK
  replace hlen := len_cons hlen
  obtain ⟨x2, xs, rfl, hlen⟩ := hlen
  replace hlen := len_cons hlen
  obtain ⟨x6, xs, rfl, hlen⟩ := hlen
  replace hlen := len_cons hlen
  obtain ⟨x7, xs, rfl, hlen⟩ := hlen
  replace hlen := len_cons hlen
  obtain ⟨x8, xs, rfl, hlen⟩ := hlen
  replace hlen := len_cons hlen
  obtain ⟨x9, xs, rfl, hlen⟩ := hlen
  replace hlen := len_cons hlen
  obtain ⟨x10, xs, rfl, hlen⟩ := hlen
  replace hlen := len_cons hlen
  obtain ⟨x11, xs, rfl, hlen⟩ := hlen
  replace hlen := len_cons hlen
  obtain ⟨x12, xs, rfl, hlen⟩ := hlen
  replace hlen := len_cons hlen
  obtain ⟨x13, xs, rfl, hlen⟩ := hlen
  replace hlen := len_cons hlen
  obtain ⟨x14, xs, rfl, hlen⟩ := hlen
  replace hlen := len_cons hlen
  obtain ⟨x24, xs, rfl, hlen⟩ := hlen
  replace hlen := len_cons hlen
  obtain ⟨x25, xs, rfl, hlen⟩ := hlen
  replace hlen := len_cons hlen
  obtain ⟨x26, xs, rfl, hlen⟩ := hlen
  replace hlen := len_cons hlen
  obtain ⟨x27, xs, rfl, hlen⟩ := hlen
  replace hlen := len_cons hlen
  obtain ⟨x28, xs, rfl, hlen⟩ := hlen
  replace hlen := len_cons hlen
  obtain ⟨x29, xs, rfl, hlen⟩ := hlen
  replace hlen := len_cons hlen
  obtain ⟨x30, xs, rfl, hlen⟩ := hlen
  replace hlen := len_cons hlen
  obtain ⟨x31, xs, rfl, hlen⟩ := hlen
  replace hlen := len_cons hlen
  obtain ⟨x32, xs, rfl, hlen⟩ := hlen
  replace hlen := len_cons hlen
  obtain ⟨x33, xs, rfl, hlen⟩ := hlen
  replace hlen := len_cons hlen
  obtain ⟨x34, xs, rfl, hlen⟩ := hlen
  replace hlen := len_cons hlen
  obtain ⟨x35, xs, rfl, hlen⟩ := hlen
  replace hlen := len_cons hlen
  obtain ⟨x36, xs, rfl, hlen⟩ := hlen
  replace hlen := len_cons hlen
  obtain ⟨x37, xs, rfl, hlen⟩ := hlen
  replace hlen := len_cons hlen
  obtain ⟨x38, xs, rfl, hlen⟩ := hlen
  replace hlen := len_cons hlen
  obtain ⟨x39, xs, rfl, hlen⟩ := hlen
  replace hlen := len_cons hlen
  obtain ⟨x40, xs, rfl, hlen⟩ := hlen
  replace hlen := len_cons hlen
  obtain ⟨x41, xs, rfl, hlen⟩ := hlen
  replace hlen := len_cons hlen
  obtain ⟨x42, xs, rfl, hlen⟩ := hlen
  replace hlen := len_cons hlen
  obtain ⟨x43, xs, rfl, hlen⟩ := hlen
  replace hlen := len_cons hlen
  obtain ⟨x44, xs, rfl, hlen⟩ := hlen
  replace hlen := len_cons hlen
  obtain ⟨x45, xs, rfl, hlen⟩ := hlen
  replace hlen := len_cons hlen
  obtain ⟨x46, xs, rfl, hlen⟩ := hlen
  replace hlen := len_cons hlen
  obtain ⟨x47, xs, rfl, hlen⟩ := hlen
  replace hlen := len_cons hlen
  obtain ⟨x48, xs, rfl, hlen⟩ := hlen
  replace hlen := len_cons hlen
  obtain ⟨x49, xs, rfl, hlen⟩ := hlen
  replace hlen := len_cons hlen
  obtain ⟨x50, xs, rfl, hlen⟩ := hlen
  replace hlen := len_cons hlen
  obtain ⟨x51, xs, rfl, hlen⟩ := hlen
  replace hlen := len_cons hlen
  obtain ⟨x52, xs, rfl, hlen⟩ := hlen
  replace hlen := len_cons hlen
  obtain ⟨x53, xs, rfl, hlen⟩ := hlen
  replace hlen := len_cons hlen
  obtain ⟨x54, xs, rfl, hlen⟩ := hlen
  replace hlen := len_cons hlen
  obtain ⟨x55, xs, rfl, hlen⟩ := hlen
  replace hlen := len_cons hlen
  obtain ⟨x56, xs, rfl, hlen⟩ := hlen
  replace hlen := len_cons hlen
  obtain ⟨x57, xs, rfl, hlen⟩ := hlen
  replace hlen := len_cons hlen
  obtain ⟨x58, xs, rfl, hlen⟩ := hlen
  replace hlen := len_cons hlen
  obtain ⟨x59, xs, rfl, hlen⟩ := hlen
  replace hlen := len_cons hlen
  obtain ⟨x60, xs, rfl, hlen⟩ := hlen
  replace hlen := len_cons hlen
  obtain ⟨x61, xs, rfl, hlen⟩ := hlen
  replace hlen := len_cons hlen
  obtain ⟨x62, xs, rfl, hlen⟩ := hlen
  replace hlen := len_cons hlen
  obtain ⟨x63, xs, rfl, hlen⟩ := hlen
  replace hlen := len_cons hlen
  obtain ⟨x64, xs, rfl, hlen⟩ := hlen
  replace hlen := len_cons hlen
  obtain ⟨x65, xs, rfl, hlen⟩ := hlen
  replace hlen := len_cons hlen
  obtain ⟨x66, xs, rfl, hlen⟩ := hlen
  replace hlen := len_cons hlen
  obtain ⟨x67, xs, rfl, hlen⟩ := hlen
  replace hlen := len_cons hlen
  obtain ⟨x68, xs, rfl, hlen⟩ := hlen
  replace hlen := len_cons hlen
  obtain ⟨x69, xs, rfl, hlen⟩ := hlen
  replace hlen := len_cons hlen
  obtain ⟨x70, xs, rfl, hlen⟩ := hlen
  replace hlen := len_cons hlen
  obtain ⟨x71, xs, rfl, hlen⟩ := hlen
  replace hlen := len_cons hlen
  obtain ⟨x72, xs, rfl, hlen⟩ := hlen
  replace hlen := len_cons hlen
  obtain ⟨x73, xs, rfl, hlen⟩ := hlen
  replace hlen := len_cons hlen
  obtain ⟨x74, xs, rfl, hlen⟩ := hlen
  replace hlen := len_cons hlen
  obtain ⟨x75, xs, rfl, hlen⟩ := hlen
  replace hlen := len_cons hlen
  obtain ⟨x76, xs, rfl, hlen⟩ := hlen
  replace hlen := len_cons hlen
  obtain ⟨x77, xs, rfl, hlen⟩ := hlen
  replace hlen := len_cons hlen
  obtain ⟨x78, xs, rfl, hlen⟩ := hlen
  replace hlen := len_cons hlen
  obtain ⟨x79, xs, rfl, hlen⟩ := hlen
  replace hlen := len_cons hlen
  obtain ⟨x80, xs, rfl, hlen⟩ := hlen
  replace hlen := len_cons hlen
  obtain ⟨x81, xs, rfl, hlen⟩ := hlen
  replace hlen := len_cons hlen
  obtain ⟨x82, xs, rfl, hlen⟩ := hlen
  replace hlen := len_cons hlen
  obtain ⟨x83, xs, rfl, hlen⟩ := hlen
  replace hlen := len_cons hlen
  obtain ⟨x84, xs, rfl, hlen⟩ := hlen
  replace hlen := len_cons hlen
  obtain ⟨x85, xs, rfl, hlen⟩ := hlen
  replace hlen := len_cons hlen
  obtain ⟨x86, xs, rfl, hlen⟩ := hlen
  replace hlen := len_cons hlen
  obtain ⟨x87, xs, rfl, hlen⟩ := hlen
  replace hlen := len_cons hlen
  obtain ⟨x88, xs, rfl, hlen⟩ := hlen
  replace hlen := len_cons hlen
  obtain ⟨x89, xs, rfl, hlen⟩ := hlen
  replace hlen := len_cons hlen
  obtain ⟨x90, xs, rfl, hlen⟩ := hlen
  replace hlen := len_cons hlen
  obtain ⟨x91, xs, rfl, hlen⟩ := hlen
  replace hlen := len_cons hlen
  obtain ⟨x92, xs, rfl, hlen⟩ := hlen
  replace hlen := len_cons hlen
  obtain ⟨x93, xs, rfl, hlen⟩ := hlen
  replace hlen := len_cons hlen
  obtain ⟨x94, xs, rfl, hlen⟩ := hlen
  replace hlen := len_cons hlen
  obtain ⟨x95, xs, rfl, hlen⟩ := hlen
  replace hlen := len_cons hlen
  obtain ⟨x96, xs, rfl, hlen⟩ := hlen
  replace hlen := len_cons hlen
  obtain ⟨x97, xs, rfl, hlen⟩ := hlen
  replace hlen := len_cons hlen
  obtain ⟨x98, xs, rfl, hlen⟩ := hlen
  replace hlen := len_cons hlen
  obtain ⟨x99, xs, rfl, hlen⟩ := hlen
  replace hlen := len_cons hlen
  obtain ⟨x100, xs, rfl, hlen⟩ := hlen
  replace hlen := len_cons hlen
  obtain ⟨x101, xs, rfl, hlen⟩ := hlen
  replace hlen := len_cons hlen
  obtain ⟨x102, xs, rfl, hlen⟩ := hlen
  replace hlen := len_cons hlen
  obtain ⟨x103, xs, rfl, hlen⟩ := hlen
  replace hlen := len_cons hlen
  obtain ⟨x104, xs, rfl, hlen⟩ := hlen
  replace hlen := len_cons hlen
  obtain ⟨x105, xs, rfl, hlen⟩ := hlen
  replace hlen := len_cons hlen
  obtain ⟨x106, xs, rfl, hlen⟩ := hlen
  replace hlen := len_cons hlen
  obtain ⟨x107, xs, rfl, hlen⟩ := hlen
  replace hlen := len_cons hlen
  obtain ⟨x108, xs, rfl, hlen⟩ := hlen
  replace hlen := len_cons hlen
  obtain ⟨x109, xs, rfl, hlen⟩ := hlen
  replace hlen := len_cons hlen
  obtain ⟨x110, xs, rfl, hlen⟩ := hlen
  replace hlen := len_cons hlen
  obtain ⟨x111, xs, rfl, hlen⟩ := hlen
  replace hlen := len_cons hlen
  obtain ⟨x112, xs, rfl, hlen⟩ := hlen
  replace hlen := len_cons hlen
  obtain ⟨x113, xs, rfl, hlen⟩ := hlen
  replace hlen := len_cons hlen
  obtain ⟨x114, xs, rfl, hlen⟩ := hlen
  replace hlen := len_cons hlen
  obtain ⟨x115, xs, rfl, hlen⟩ := hlen
  replace hlen := len_cons hlen
  obtain ⟨x116, xs, rfl, hlen⟩ := hlen
  replace hlen := len_cons hlen
  obtain ⟨x117, xs, rfl, hlen⟩ := hlen
  replace hlen := len_cons hlen
  obtain ⟨x118, xs, rfl, hlen⟩ := hlen
  replace hlen := len_nil hlen
  subst hlen
  refine WC.frame (by simp only [setAll, List.set_cons_succ, List.set_cons_zero]; exact rfl) ?_
  simp only [gt] at hI
  obtain ⟨i, L, h1, h2, rfl, rfl, hi, hL, hH, hI, hle, hld, hg⟩ := hI
  by_cases hlt : i < its.length
  rotate_left
  · obtain ⟨am, cm, fm, rfl, hmo⟩ := hH
    replace hg := (hg.front 1).pair
    repeat' (first
      | with_reducible refine QX.next ?_ | with_reducible refine WC.seq ?_ | with_reducible refine WC.region ?_ | with_reducible refine WC.block ?_ | with_reducible refine QX.bnorm ?_ | with_reducible refine QX.bret ?_ | with_reducible refine QX.ret ?_ | with_reducible refine QX.exit ?_ | with_reducible refine QX.bsame ?_ | with_reducible refine QX.bother rfl ?_
      | with_reducible refine WO.nil ?_ | with_reducible refine WC.skip ?_ | with_reducible refine WC.ret ?_ | with_reducible refine WC.exit ?_ | ((with_reducible refine WC.id ?_); first | refine WC.condT rfl ?_ | refine WC.condF rfl ?_)
      | ((with_reducible refine WQ.cid ?_); first | refine WQ.xG ?_ | refine WQ.pure ?_)
      | ((with_reducible refine WQ.gid ?_); first | refine WQ.on rfl ?_ | refine WQ.offN rfl rfl ?_)
      | ((with_reducible refine WO.cid ?_); first
        | refine WO.x ?_ | (refine op_alloc hg ?_; clear hg; intro b w hg; refine WO.fr ?_) | (refine op_boxA hg ?_; clear hg; intro b w hg; refine WO.fr ?_) | (refine op_box1 hg ?_; clear hg; intro b w hg; refine WO.fr ?_)
        | (refine op_store hg ?_; clear hg; intro w hg; refine WO.fr ?_; try simp only [List.set_cons_succ, List.set_cons_zero] at hg)
        | (refine op_storeA hg ?_; clear hg; intro w hg; refine WO.fr ?_; try simp only [over, List.take_zero, List.take_succ_cons, List.drop_zero, List.drop_succ_cons, List.nil_append, List.cons_append, List.append_nil, List.length_cons, List.length_nil, Nat.zero_add, Nat.reduceAdd, splice, cellsL] at hg)
        | (refine op_pure hg ?_; clear hg; intro w hg; refine WO.fr ?_) | (refine op_pureB hg ?_; clear hg; intro w hg c hc; cases c <;> refine WO.fr ?_))
      | ((with_reducible refine WO.gid ?_); first | refine WO.on rfl ?_ | refine WO.offN rfl rfl ?_))
    have s1 : ∀ {w : World}, (w.heap[pm]? = some (.cells [.slice am L.events.length cm].toArray 30 (0, 0))) → w.cell? ⟨pm, 0, none⟩ = some (.slice am L.events.length cm) := fun h => heap_cell h rfl
    refine WC.drawn (fun w => w.heap[pm]? = some (.cells [.slice am L.events.length cm].toArray 30 (0, 0))) [] hg ?_
    clear hg
    intro w hg
    have hS : (fun w => w.heap[pm]? = some (.cells [.slice am L.events.length cm].toArray 30 (0, 0))) w := hg.own (pm, _) (by simp)
    refine WA.pass 0 hS ?_
    refine WA.pass 2 hS ?_
    refine WA.pass 3 hS ?_
    refine WA.pass 4 hS ?_
    refine WA.passS 5 hS ?_
    refine WA.only 1 ?_
    refine op_call (Events_spec (hg.front 2).owns1 hL (by omega)) ?_
    rintro _ w ⟨ae, ce, fe, rfl, hOw, hg2⟩
    replace hg := (hg.front 2).call1 hg2
    replace hg : Goes w0 [] [fe, h1, [(pm, .cells [.slice am L.events.length cm].toArray 30 (0, 0))], fm] w := hg
    clear hg2 hS
    refine ⟨_, rfl, ?_⟩
    refine WO.fr ?_
    have hS : (fun w => w.heap[pm]? = some (.cells [.slice am L.events.length cm].toArray 30 (0, 0))) w := hg.own (pm, _) (by simp)
    refine WO.nilA hS ?_
    refine WA.only 6 ?_
    refine op_pure hg ?_ (hc := SameE_spec _ ae am ce cm L.events L.events (evs_own hOw hg rfl (by omega)) (evs_own hmo (hg.front 3) rfl (by omega)))
    clear hg hS
    intro w hg
    rw [decide_eq_true rfl]
    refine WO.fr ?_
    have hS : (fun w => w.heap[pm]? = some (.cells [.slice am L.events.length cm].toArray 30 (0, 0))) w := hg.own (pm, _) (by simp)
    refine WO.nilA hS ?_
    refine WA.pass 7 hS ?_
    refine WA.onlyG 8 ?_
    refine op_pure hg ?_ (hc := alive_spec _)
    clear hg hS
    intro w hg
    refine WO.fr ?_
    have hS : (fun w => w.heap[pm]? = some (.cells [.slice am L.events.length cm].toArray 30 (0, 0))) w := hg.own (pm, _) (by simp)
    refine WO.nilA hS ?_
    refine WA.pass 9 hS ?_
    refine WA.pass 10 hS ?_
    refine WA.nil ?_
    repeat' (first
      | with_reducible refine QX.next ?_ | with_reducible refine WC.seq ?_ | with_reducible refine WC.region ?_ | with_reducible refine WC.block ?_ | with_reducible refine QX.bnorm ?_ | with_reducible refine QX.bret ?_ | with_reducible refine QX.ret ?_ | with_reducible refine QX.exit ?_ | with_reducible refine QX.bsame ?_ | with_reducible refine QX.bother rfl ?_
      | with_reducible refine WO.nil ?_ | with_reducible refine WC.skip ?_ | with_reducible refine WC.ret ?_ | with_reducible refine WC.exit ?_ | ((with_reducible refine WC.id ?_); first | refine WC.condT rfl ?_ | refine WC.condF rfl ?_)
      | (refine WC.quietG hg ?_; clear hg) | ((with_reducible refine WQ.nilG ?_); intro w hg)
      | ((with_reducible refine WQ.cid ?_); first | refine WQ.xG ?_ | refine WQ.pure ?_)
      | ((with_reducible refine WQ.gid ?_); first | refine WQ.on rfl ?_ | refine WQ.offN rfl rfl ?_)
      | ((with_reducible refine WO.cid ?_); first
        | refine WO.x ?_ | (refine op_alloc hg ?_; clear hg; intro b w hg; refine WO.fr ?_) | (refine op_boxA hg ?_; clear hg; intro b w hg; refine WO.fr ?_) | (refine op_box1 hg ?_; clear hg; intro b w hg; refine WO.fr ?_)
        | (refine op_store hg ?_; clear hg; intro w hg; refine WO.fr ?_; try simp only [List.set_cons_succ, List.set_cons_zero] at hg)
        | (refine op_storeA hg ?_; clear hg; intro w hg; refine WO.fr ?_; try simp only [over, List.take_zero, List.take_succ_cons, List.drop_zero, List.drop_succ_cons, List.nil_append, List.cons_append, List.append_nil, List.length_cons, List.length_nil, Nat.zero_add, Nat.reduceAdd, splice, cellsL] at hg)
        | (refine op_pure hg ?_; clear hg; intro w hg; refine WO.fr ?_) | (refine op_pureB hg ?_; clear hg; intro w hg c hc; cases c <;> refine WO.fr ?_))
      | ((with_reducible refine WO.gid ?_); first | refine WO.on rfl ?_ | refine WO.offN rfl rfl ?_))
    exact ret1 rfl ⟨rfl, hg.drop⟩
  obtain ⟨bs, ks, rfl, _, hrow⟩ := hS.at (i := i) (r := its[i].enc) (by simp [hlt])
  have r1 : ∀ {w Fs}, Goes w0 [] Fs w → Cells w ⟨bs, ks + i * 14, none⟩ [.int .i64 its[i].kind, .int .i64 its[i].client, .int .i64 its[i].id, .int .i64 its[i].op.kind, .int .i64 its[i].op.n, .string its[i].op.data, .int .i64 its[i].res.e, .int .i64 its[i].res.n, .int .i64 its[i].res.k1, .int .i64 its[i].res.k2, .int .i64 its[i].res.k3, .int .i64 its[i].res.k4, .int .i64 its[i].res.k5, .int .i64 its[i].res.k6] := fun h => h.cellsOld hrow (by simp)
  clear hrow
  by_cases hk0 : its[i].kind = 0
  · repeat' (first
      | with_reducible refine QX.next ?_ | with_reducible refine WC.seq ?_ | with_reducible refine WC.region ?_ | with_reducible refine WC.block ?_ | with_reducible refine QX.bnorm ?_ | with_reducible refine QX.bret ?_ | with_reducible refine QX.ret ?_ | with_reducible refine QX.exit ?_ | with_reducible refine QX.bsame ?_ | with_reducible refine QX.bother rfl ?_
      | with_reducible refine WO.nil ?_ | with_reducible refine WC.skip ?_ | with_reducible refine WC.ret ?_ | with_reducible refine WC.exit ?_ | ((with_reducible refine WC.id ?_); first | refine WC.condT rfl ?_ | refine WC.condF rfl ?_)
      | ((with_reducible refine WQ.cid ?_); first | refine WQ.xG ?_ | refine WQ.pure ?_)
      | ((with_reducible refine WQ.gid ?_); first | refine WQ.on rfl ?_ | refine WQ.offN rfl rfl ?_)
      | ((with_reducible refine WO.cid ?_); first
        | refine WO.x ?_ | (refine op_alloc hg ?_; clear hg; intro b w hg; refine WO.fr ?_) | (refine op_boxA hg ?_; clear hg; intro b w hg; refine WO.fr ?_) | (refine op_box1 hg ?_; clear hg; intro b w hg; refine WO.fr ?_)
        | (refine op_store hg ?_; clear hg; intro w hg; refine WO.fr ?_; try simp only [List.set_cons_succ, List.set_cons_zero] at hg)
        | (refine op_storeA hg ?_; clear hg; intro w hg; refine WO.fr ?_; try simp only [over, List.take_zero, List.take_succ_cons, List.drop_zero, List.drop_succ_cons, List.nil_append, List.cons_append, List.append_nil, List.length_cons, List.length_nil, Nat.zero_add, Nat.reduceAdd, splice, cellsL] at hg)
        | (refine op_pure hg ?_; clear hg; intro w hg; refine WO.fr ?_) | (refine op_pureB hg ?_; clear hg; intro w hg c hc; cases c <;> refine WO.fr ?_))
      | ((with_reducible refine WO.gid ?_); first | refine WO.on rfl ?_ | refine WO.offN rfl rfl ?_))
    refine op_call (Invoke_spec its[i].client its[i].op (hg.front 1).owns1 hL (by omega)) ?_
    rintro _ w2 ⟨h1', hg2, hcase⟩
    replace hg := (hg.front 1).callF hg2
    clear hg2
    have hfol := hI.follow1 its[i].client its[i].op
    have hc4 := hI.i4
    rcases hcase with ⟨hmg, hL', rfl⟩ | ⟨hmg, hL', rfl⟩
    all_goals
      refine ⟨_, rfl, ?_⟩
      refine WO.fr ?_
      repeat' (first
        | with_reducible refine QX.next ?_ | with_reducible refine WC.seq ?_ | with_reducible refine WC.region ?_ | with_reducible refine WC.block ?_ | with_reducible refine QX.bnorm ?_ | with_reducible refine QX.bret ?_ | with_reducible refine QX.ret ?_ | with_reducible refine QX.exit ?_ | with_reducible refine QX.bsame ?_ | with_reducible refine QX.bother rfl ?_
        | with_reducible refine WO.nil ?_ | with_reducible refine WC.skip ?_ | with_reducible refine WC.ret ?_ | with_reducible refine WC.exit ?_ | ((with_reducible refine WC.id ?_); first | refine WC.condT rfl ?_ | refine WC.condF rfl ?_)
        | ((with_reducible refine WQ.cid ?_); first | refine WQ.xG ?_ | refine WQ.pure ?_)
        | ((with_reducible refine WQ.gid ?_); first | refine WQ.on rfl ?_ | refine WQ.offN rfl rfl ?_)
        | ((with_reducible refine WO.cid ?_); first
          | refine WO.x ?_ | (refine op_alloc hg ?_; clear hg; intro b w hg; refine WO.fr ?_) | (refine op_boxA hg ?_; clear hg; intro b w hg; refine WO.fr ?_) | (refine op_box1 hg ?_; clear hg; intro b w hg; refine WO.fr ?_)
          | (refine op_store hg ?_; clear hg; intro w hg; refine WO.fr ?_; try simp only [List.set_cons_succ, List.set_cons_zero] at hg)
          | (refine op_storeA hg ?_; clear hg; intro w hg; refine WO.fr ?_; try simp only [over, List.take_zero, List.take_succ_cons, List.drop_zero, List.drop_succ_cons, List.nil_append, List.cons_append, List.append_nil, List.length_cons, List.length_nil, Nat.zero_add, Nat.reduceAdd, splice, cellsL] at hg)
          | (refine op_pure hg ?_; clear hg; intro w hg; refine WO.fr ?_) | (refine op_pureB hg ?_; clear hg; intro w hg c hc; cases c <;> refine WO.fr ?_))
        | ((with_reducible refine WO.gid ?_); first | refine WO.on rfl ?_ | refine WO.offN rfl rfl ?_))
      refine op_call (HInvoke_spec its[i].client its[i].op (hg.front 2).owns1 hH (by omega)) ?_
      rintro _ w2 ⟨h2', rfl, hH', hg2⟩
      replace hg := (hg.front 2).callF hg2
      clear hg2
      rw [hfol, hmg, hc4] at hH' ⊢
      refine ⟨_, rfl, ?_⟩
      refine WO.fr ?_
      repeat' (first
        | with_reducible refine QX.next ?_ | with_reducible refine WC.seq ?_ | with_reducible refine WC.region ?_ | with_reducible refine WC.block ?_ | with_reducible refine QX.bnorm ?_ | with_reducible refine QX.bret ?_ | with_reducible refine QX.ret ?_ | with_reducible refine QX.exit ?_ | with_reducible refine QX.bsame ?_ | with_reducible refine QX.bother rfl ?_
        | with_reducible refine WO.nil ?_ | with_reducible refine WC.skip ?_ | with_reducible refine WC.ret ?_ | with_reducible refine WC.exit ?_ | ((with_reducible refine WC.id ?_); first | refine WC.condT rfl ?_ | refine WC.condF rfl ?_)
        | ((with_reducible refine WQ.cid ?_); first | refine WQ.xG ?_ | refine WQ.pure ?_)
        | ((with_reducible refine WQ.gid ?_); first | refine WQ.on rfl ?_ | refine WQ.offN rfl rfl ?_)
        | ((with_reducible refine WO.cid ?_); first
          | refine WO.x ?_ | (refine op_alloc hg ?_; clear hg; intro b w hg; refine WO.fr ?_) | (refine op_boxA hg ?_; clear hg; intro b w hg; refine WO.fr ?_) | (refine op_box1 hg ?_; clear hg; intro b w hg; refine WO.fr ?_)
          | (refine op_store hg ?_; clear hg; intro w hg; refine WO.fr ?_; try simp only [List.set_cons_succ, List.set_cons_zero] at hg)
          | (refine op_storeA hg ?_; clear hg; intro w hg; refine WO.fr ?_; try simp only [over, List.take_zero, List.take_succ_cons, List.drop_zero, List.drop_succ_cons, List.nil_append, List.cons_append, List.append_nil, List.length_cons, List.length_nil, Nat.zero_add, Nat.reduceAdd, splice, cellsL] at hg)
          | (refine op_pure hg ?_; clear hg; intro w hg; refine WO.fr ?_) | (refine op_pureB hg ?_; clear hg; intro w hg c hc; cases c <;> refine WO.fr ?_))
        | ((with_reducible refine WO.gid ?_); first | refine WO.on rfl ?_ | refine WO.offN rfl rfl ?_))
    · have hI2 : Inv (L.inv its[i].client its[i].op) := hI.inv _ _ hmg
      have hH2 : HF pm (L.inv its[i].client its[i].op).events h2' := hH'
      have hL2 : LogF pl (L.inv its[i].client its[i].op) h1' := hL'
      have hle2 : (L.inv its[i].client its[i].op).events.length ≤ i + 1 ∧ (L.inv its[i].client its[i].op).deeds.length ≤ i + 1 := by constructor <;> (try simp [LogS.inv, LogS.com, LogS.res]) <;> omega
      generalize L.inv its[i].client its[i].op = L2 at hI2 hH2 hL2 hle2
      refine op_call (Of_spec its[i].client (hg.front 1).owns1 hL2) ?_
      rintro _ w2 ⟨rfl, hg2⟩
      replace hg := (hg.front 1).callF hg2
      clear hg2
      refine ⟨_, rfl, ?_⟩
      refine WO.fr ?_
      repeat' (first
        | with_reducible refine QX.next ?_ | with_reducible refine WC.seq ?_ | with_reducible refine WC.region ?_ | with_reducible refine WC.block ?_ | with_reducible refine QX.bnorm ?_ | with_reducible refine QX.bret ?_ | with_reducible refine QX.ret ?_ | with_reducible refine QX.exit ?_ | with_reducible refine QX.bsame ?_ | with_reducible refine QX.bother rfl ?_
        | with_reducible refine WO.nil ?_ | with_reducible refine WC.skip ?_ | with_reducible refine WC.ret ?_ | with_reducible refine WC.exit ?_ | ((with_reducible refine WC.id ?_); first | refine WC.condT rfl ?_ | refine WC.condF rfl ?_)
        | ((with_reducible refine WQ.cid ?_); first | refine WQ.xG ?_ | refine WQ.pure ?_)
        | ((with_reducible refine WQ.gid ?_); first | refine WQ.on rfl ?_ | refine WQ.offN rfl rfl ?_)
        | ((with_reducible refine WO.cid ?_); first
          | refine WO.x ?_ | (refine op_alloc hg ?_; clear hg; intro b w hg; refine WO.fr ?_) | (refine op_boxA hg ?_; clear hg; intro b w hg; refine WO.fr ?_) | (refine op_box1 hg ?_; clear hg; intro b w hg; refine WO.fr ?_)
          | (refine op_store hg ?_; clear hg; intro w hg; refine WO.fr ?_; try simp only [List.set_cons_succ, List.set_cons_zero] at hg)
          | (refine op_storeA hg ?_; clear hg; intro w hg; refine WO.fr ?_; try simp only [over, List.take_zero, List.take_succ_cons, List.drop_zero, List.drop_succ_cons, List.nil_append, List.cons_append, List.append_nil, List.length_cons, List.length_nil, Nat.zero_add, Nat.reduceAdd, splice, cellsL] at hg)
          | (refine op_pure hg ?_; clear hg; intro w hg; refine WO.fr ?_) | (refine op_pureB hg ?_; clear hg; intro w hg c hc; cases c <;> refine WO.fr ?_))
        | ((with_reducible refine WO.gid ?_); first | refine WO.on rfl ?_ | refine WO.offN rfl rfl ?_))
      refine op_call (HOf_spec its[i].client (hg.front 1).owns1 hH2 (by omega)) ?_
      rintro x w2 ⟨hx, hg2⟩
      replace hx := hx.trans (congrArg Ending.returned (hI2.of_same its[i].client))
      subst hx
      replace hg := (hg.front 1).callF hg2
      clear hg2
      refine ⟨_, rfl, ?_⟩
      refine WO.fr ?_
      generalize (mget L2.of its[i].client).getD 0 = gx
      generalize (mget L2.of its[i].client).isSome = gb
      have hL3 := hL2
      have hH3 := hH2
      obtain ⟨_, fe, fd, _, rfl, @⟨ae, ad, ce, cd, bm, clock, es, _, _, he, hd, hm⟩⟩ := hL2
      obtain ⟨am, cm, fm, rfl, hmo⟩ := hH2
      replace hg := (hg.pair.front 2).four
      have p1 : ∀ {w : World} {Fs : List Frag}, Goes w0 [] ([(pl, .cells [.slice ae L2.events.length ce, .slice ad L2.deeds.length cd, .map (some bm)].toArray 55 (0, 0))] :: Fs) w → Calls Try.prog 17 #[.pointer (some ⟨pl, 0, none⟩)] w _ := fun h => Len_pure (heap_cell (h.own (pl, .cells [.slice ae L2.events.length ce, .slice ad L2.deeds.length cd, .map (some bm)].toArray 55 (0, 0)) (by simp)) rfl)
      cases gb
      all_goals
        repeat' (first
          | with_reducible refine QX.next ?_ | with_reducible refine WC.seq ?_ | with_reducible refine WC.region ?_ | with_reducible refine WC.block ?_ | with_reducible refine QX.bnorm ?_ | with_reducible refine QX.bret ?_ | with_reducible refine QX.ret ?_ | with_reducible refine QX.exit ?_ | with_reducible refine QX.bsame ?_ | with_reducible refine QX.bother rfl ?_
          | with_reducible refine WO.nil ?_ | with_reducible refine WC.skip ?_ | with_reducible refine WC.ret ?_ | with_reducible refine WC.exit ?_ | ((with_reducible refine WC.id ?_); first | refine WC.condT rfl ?_ | refine WC.condF rfl ?_)
          | (refine WC.quietG hg ?_; clear hg) | ((with_reducible refine WQ.nilG ?_); intro w hg)
          | ((with_reducible refine WQ.cid ?_); first | refine WQ.xG ?_ | refine WQ.pure ?_)
          | ((with_reducible refine WQ.gid ?_); first | refine WQ.on rfl ?_ | refine WQ.offN rfl rfl ?_)
          | ((with_reducible refine WO.cid ?_); first
            | refine WO.x ?_ | (refine op_alloc hg ?_; clear hg; intro b w hg; refine WO.fr ?_) | (refine op_boxA hg ?_; clear hg; intro b w hg; refine WO.fr ?_) | (refine op_box1 hg ?_; clear hg; intro b w hg; refine WO.fr ?_)
            | (refine op_store hg ?_; clear hg; intro w hg; refine WO.fr ?_; try simp only [List.set_cons_succ, List.set_cons_zero] at hg)
            | (refine op_storeA hg ?_; clear hg; intro w hg; refine WO.fr ?_; try simp only [over, List.take_zero, List.take_succ_cons, List.drop_zero, List.drop_succ_cons, List.nil_append, List.cons_append, List.append_nil, List.length_cons, List.length_nil, Nat.zero_add, Nat.reduceAdd, splice, cellsL] at hg)
            | (refine op_pure hg ?_; clear hg; intro w hg; refine WO.fr ?_) | (refine op_pureB hg ?_; clear hg; intro w hg c hc; cases c <;> refine WO.fr ?_))
          | ((with_reducible refine WO.gid ?_); first | refine WO.on rfl ?_ | refine WO.offN rfl rfl ?_))
        with_reducible refine QX.norm ?_
        refine hK _ _ _ ?_ ?_ ?_
        · simp only [setAll, List.map_cons, List.map_nil, gt, List.set_cons_succ, List.set_cons_zero]
        all_goals simp only [List.map_cons, List.map_nil, gt, intOf]
        · exact ⟨i + 1, L2, _, _, trivial, rfl, hlt, hL3, hH3, hI2, hle2.1, hle2.2, hg.sub (by simp)⟩
        · omega
    · have hI2 : Inv (L) := hI
      have hH2 : HF pm (L).events h2' := hH'
      have hL2 : LogF pl (L) h1' := hL'
      have hle2 : (L).events.length ≤ i + 1 ∧ (L).deeds.length ≤ i + 1 := by constructor <;> (try simp [LogS.inv, LogS.com, LogS.res]) <;> omega
      generalize L = L2 at hI2 hH2 hL2 hle2
      refine op_call (Of_spec its[i].client (hg.front 1).owns1 hL2) ?_
      rintro _ w2 ⟨rfl, hg2⟩
      replace hg := (hg.front 1).callF hg2
      clear hg2
      refine ⟨_, rfl, ?_⟩
      refine WO.fr ?_
      repeat' (first
        | with_reducible refine QX.next ?_ | with_reducible refine WC.seq ?_ | with_reducible refine WC.region ?_ | with_reducible refine WC.block ?_ | with_reducible refine QX.bnorm ?_ | with_reducible refine QX.bret ?_ | with_reducible refine QX.ret ?_ | with_reducible refine QX.exit ?_ | with_reducible refine QX.bsame ?_ | with_reducible refine QX.bother rfl ?_
        | with_reducible refine WO.nil ?_ | with_reducible refine WC.skip ?_ | with_reducible refine WC.ret ?_ | with_reducible refine WC.exit ?_ | ((with_reducible refine WC.id ?_); first | refine WC.condT rfl ?_ | refine WC.condF rfl ?_)
        | ((with_reducible refine WQ.cid ?_); first | refine WQ.xG ?_ | refine WQ.pure ?_)
        | ((with_reducible refine WQ.gid ?_); first | refine WQ.on rfl ?_ | refine WQ.offN rfl rfl ?_)
        | ((with_reducible refine WO.cid ?_); first
          | refine WO.x ?_ | (refine op_alloc hg ?_; clear hg; intro b w hg; refine WO.fr ?_) | (refine op_boxA hg ?_; clear hg; intro b w hg; refine WO.fr ?_) | (refine op_box1 hg ?_; clear hg; intro b w hg; refine WO.fr ?_)
          | (refine op_store hg ?_; clear hg; intro w hg; refine WO.fr ?_; try simp only [List.set_cons_succ, List.set_cons_zero] at hg)
          | (refine op_storeA hg ?_; clear hg; intro w hg; refine WO.fr ?_; try simp only [over, List.take_zero, List.take_succ_cons, List.drop_zero, List.drop_succ_cons, List.nil_append, List.cons_append, List.append_nil, List.length_cons, List.length_nil, Nat.zero_add, Nat.reduceAdd, splice, cellsL] at hg)
          | (refine op_pure hg ?_; clear hg; intro w hg; refine WO.fr ?_) | (refine op_pureB hg ?_; clear hg; intro w hg c hc; cases c <;> refine WO.fr ?_))
        | ((with_reducible refine WO.gid ?_); first | refine WO.on rfl ?_ | refine WO.offN rfl rfl ?_))
      refine op_call (HOf_spec its[i].client (hg.front 1).owns1 hH2 (by omega)) ?_
      rintro x w2 ⟨hx, hg2⟩
      replace hx := hx.trans (congrArg Ending.returned (hI2.of_same its[i].client))
      subst hx
      replace hg := (hg.front 1).callF hg2
      clear hg2
      refine ⟨_, rfl, ?_⟩
      refine WO.fr ?_
      generalize (mget L2.of its[i].client).getD 0 = gx
      generalize (mget L2.of its[i].client).isSome = gb
      have hL3 := hL2
      have hH3 := hH2
      obtain ⟨_, fe, fd, _, rfl, @⟨ae, ad, ce, cd, bm, clock, es, _, _, he, hd, hm⟩⟩ := hL2
      obtain ⟨am, cm, fm, rfl, hmo⟩ := hH2
      replace hg := (hg.pair.front 2).four
      have p1 : ∀ {w : World} {Fs : List Frag}, Goes w0 [] ([(pl, .cells [.slice ae L2.events.length ce, .slice ad L2.deeds.length cd, .map (some bm)].toArray 55 (0, 0))] :: Fs) w → Calls Try.prog 17 #[.pointer (some ⟨pl, 0, none⟩)] w _ := fun h => Len_pure (heap_cell (h.own (pl, .cells [.slice ae L2.events.length ce, .slice ad L2.deeds.length cd, .map (some bm)].toArray 55 (0, 0)) (by simp)) rfl)
      cases gb
      all_goals
        repeat' (first
          | with_reducible refine QX.next ?_ | with_reducible refine WC.seq ?_ | with_reducible refine WC.region ?_ | with_reducible refine WC.block ?_ | with_reducible refine QX.bnorm ?_ | with_reducible refine QX.bret ?_ | with_reducible refine QX.ret ?_ | with_reducible refine QX.exit ?_ | with_reducible refine QX.bsame ?_ | with_reducible refine QX.bother rfl ?_
          | with_reducible refine WO.nil ?_ | with_reducible refine WC.skip ?_ | with_reducible refine WC.ret ?_ | with_reducible refine WC.exit ?_ | ((with_reducible refine WC.id ?_); first | refine WC.condT rfl ?_ | refine WC.condF rfl ?_)
          | (refine WC.quietG hg ?_; clear hg) | ((with_reducible refine WQ.nilG ?_); intro w hg)
          | ((with_reducible refine WQ.cid ?_); first | refine WQ.xG ?_ | refine WQ.pure ?_)
          | ((with_reducible refine WQ.gid ?_); first | refine WQ.on rfl ?_ | refine WQ.offN rfl rfl ?_)
          | ((with_reducible refine WO.cid ?_); first
            | refine WO.x ?_ | (refine op_alloc hg ?_; clear hg; intro b w hg; refine WO.fr ?_) | (refine op_boxA hg ?_; clear hg; intro b w hg; refine WO.fr ?_) | (refine op_box1 hg ?_; clear hg; intro b w hg; refine WO.fr ?_)
            | (refine op_store hg ?_; clear hg; intro w hg; refine WO.fr ?_; try simp only [List.set_cons_succ, List.set_cons_zero] at hg)
            | (refine op_storeA hg ?_; clear hg; intro w hg; refine WO.fr ?_; try simp only [over, List.take_zero, List.take_succ_cons, List.drop_zero, List.drop_succ_cons, List.nil_append, List.cons_append, List.append_nil, List.length_cons, List.length_nil, Nat.zero_add, Nat.reduceAdd, splice, cellsL] at hg)
            | (refine op_pure hg ?_; clear hg; intro w hg; refine WO.fr ?_) | (refine op_pureB hg ?_; clear hg; intro w hg c hc; cases c <;> refine WO.fr ?_))
          | ((with_reducible refine WO.gid ?_); first | refine WO.on rfl ?_ | refine WO.offN rfl rfl ?_))
        with_reducible refine QX.norm ?_
        refine hK _ _ _ ?_ ?_ ?_
        · simp only [setAll, List.map_cons, List.map_nil, gt, List.set_cons_succ, List.set_cons_zero]
        all_goals simp only [List.map_cons, List.map_nil, gt, intOf]
        · exact ⟨i + 1, L2, _, _, trivial, rfl, hlt, hL3, hH3, hI2, hle2.1, hle2.2, hg.sub (by simp)⟩
        · omega
  by_cases hk1 : its[i].kind = 1
  · repeat' (first
      | with_reducible refine QX.next ?_ | with_reducible refine WC.seq ?_ | with_reducible refine WC.region ?_ | with_reducible refine WC.block ?_ | with_reducible refine QX.bnorm ?_ | with_reducible refine QX.bret ?_ | with_reducible refine QX.ret ?_ | with_reducible refine QX.exit ?_ | with_reducible refine QX.bsame ?_ | with_reducible refine QX.bother rfl ?_
      | with_reducible refine WO.nil ?_ | with_reducible refine WC.skip ?_ | with_reducible refine WC.ret ?_ | with_reducible refine WC.exit ?_ | ((with_reducible refine WC.id ?_); first | refine WC.condT rfl ?_ | refine WC.condF rfl ?_)
      | ((with_reducible refine WQ.cid ?_); first | refine WQ.xG ?_ | refine WQ.pure ?_)
      | ((with_reducible refine WQ.gid ?_); first | refine WQ.on rfl ?_ | refine WQ.offN rfl rfl ?_)
      | ((with_reducible refine WO.cid ?_); first
        | refine WO.x ?_ | (refine op_alloc hg ?_; clear hg; intro b w hg; refine WO.fr ?_) | (refine op_boxA hg ?_; clear hg; intro b w hg; refine WO.fr ?_) | (refine op_box1 hg ?_; clear hg; intro b w hg; refine WO.fr ?_)
        | (refine op_store hg ?_; clear hg; intro w hg; refine WO.fr ?_; try simp only [List.set_cons_succ, List.set_cons_zero] at hg)
        | (refine op_storeA hg ?_; clear hg; intro w hg; refine WO.fr ?_; try simp only [over, List.take_zero, List.take_succ_cons, List.drop_zero, List.drop_succ_cons, List.nil_append, List.cons_append, List.append_nil, List.length_cons, List.length_nil, Nat.zero_add, Nat.reduceAdd, splice, cellsL] at hg)
        | (refine op_pure hg ?_; clear hg; intro w hg; refine WO.fr ?_) | (refine op_pureB hg ?_; clear hg; intro w hg c hc; cases c <;> refine WO.fr ?_))
      | ((with_reducible refine WO.gid ?_); first | refine WO.on rfl ?_ | refine WO.offN rfl rfl ?_))
    have s1 : ∀ {w : World}, (w.heap[b]? = some (.cells (List.toArray [.int .i64 its[i].kind, .int .i64 its[i].client, .int .i64 its[i].id, .int .i64 its[i].op.kind, .int .i64 its[i].op.n, .string its[i].op.data, .int .i64 its[i].res.e, .int .i64 its[i].res.n, .int .i64 its[i].res.k1, .int .i64 its[i].res.k2, .int .i64 its[i].res.k3, .int .i64 its[i].res.k4, .int .i64 its[i].res.k5, .int .i64 its[i].res.k6]) 39 (0, 0))) → w.cell? ⟨b, 2, none⟩ = some (.int .i64 its[i].id) := fun h => heap_cell h rfl
    have t1 : ∀ {w : World}, (w.heap[b]? = some (.cells (List.toArray [.int .i64 its[i].kind, .int .i64 its[i].client, .int .i64 its[i].id, .int .i64 its[i].op.kind, .int .i64 its[i].op.n, .string its[i].op.data, .int .i64 its[i].res.e, .int .i64 its[i].res.n, .int .i64 its[i].res.k1, .int .i64 its[i].res.k2, .int .i64 its[i].res.k3, .int .i64 its[i].res.k4, .int .i64 its[i].res.k5, .int .i64 its[i].res.k6]) 39 (0, 0))) → Cells w ⟨b, 6, none⟩ [.int .i64 its[i].res.e, .int .i64 its[i].res.n, .int .i64 its[i].res.k1, .int .i64 its[i].res.k2, .int .i64 its[i].res.k3, .int .i64 its[i].res.k4, .int .i64 its[i].res.k5, .int .i64 its[i].res.k6] := fun h => heap_cells h rfl
    refine WC.drawn (fun w => w.heap[b]? = some (.cells (List.toArray [.int .i64 its[i].kind, .int .i64 its[i].client, .int .i64 its[i].id, .int .i64 its[i].op.kind, .int .i64 its[i].op.n, .string its[i].op.data, .int .i64 its[i].res.e, .int .i64 its[i].res.n, .int .i64 its[i].res.k1, .int .i64 its[i].res.k2, .int .i64 its[i].res.k3, .int .i64 its[i].res.k4, .int .i64 its[i].res.k5, .int .i64 its[i].res.k6]) 39 (0, 0))) [] hg ?_
    clear hg
    intro w hg
    have hS : (fun w => w.heap[b]? = some (.cells (List.toArray [.int .i64 its[i].kind, .int .i64 its[i].client, .int .i64 its[i].id, .int .i64 its[i].op.kind, .int .i64 its[i].op.n, .string its[i].op.data, .int .i64 its[i].res.e, .int .i64 its[i].res.n, .int .i64 its[i].res.k1, .int .i64 its[i].res.k2, .int .i64 its[i].res.k3, .int .i64 its[i].res.k4, .int .i64 its[i].res.k5, .int .i64 its[i].res.k6]) 39 (0, 0))) w := hg.own (b, _) (by simp)
    refine WA.pass 0 hS ?_
    refine WA.pass 1 hS ?_
    refine WA.pass 3 hS ?_
    refine WA.pass 6 hS ?_
    refine WA.pass 7 hS ?_
    refine WA.pass 9 hS ?_
    refine WA.passS 2 hS ?_
    refine WA.passS 4 hS ?_
    refine WA.passS 8 hS ?_
    refine WA.passS 10 hS ?_
    refine WA.only 5 ?_
    rcases hI.later2 its[i].id its[i].res with ⟨hlat, hno⟩ | ⟨j, d, hid, hdj, hd0, hlat⟩
    · refine op_call (Commit_no its[i].id its[i].res (hg.front 1).owns1 hL (by omega) hno) ?_
      rintro _ w ⟨rfl, hg2⟩
      replace hg := (hg.front 1).callF hg2
      clear hg2
      clear hS
      refine ⟨_, rfl, ?_⟩
      refine WO.fr ?_
      have hS : (fun w => w.heap[b]? = some (.cells (List.toArray [.int .i64 its[i].kind, .int .i64 its[i].client, .int .i64 its[i].id, .int .i64 its[i].op.kind, .int .i64 its[i].op.n, .string its[i].op.data, .int .i64 its[i].res.e, .int .i64 its[i].res.n, .int .i64 its[i].res.k1, .int .i64 its[i].res.k2, .int .i64 its[i].res.k3, .int .i64 its[i].res.k4, .int .i64 its[i].res.k5, .int .i64 its[i].res.k6]) 39 (0, 0))) w := hg.own (b, _) (by simp)
      refine WO.nilA hS ?_
      refine WA.only 11 ?_
      refine op_call (Later_spec 2 its[i].id its[i].res (hg.front 2).owns1 hH (by omega)) ?_
      rintro _ w ⟨h2', rfl, hH', hg2⟩
      replace hg := (hg.front 2).callF hg2
      clear hg2 hS
      rw [hlat] at hH' ⊢
      refine ⟨_, rfl, ?_⟩
      refine WO.fr ?_
      have hS : (fun w => w.heap[b]? = some (.cells (List.toArray [.int .i64 its[i].kind, .int .i64 its[i].client, .int .i64 its[i].id, .int .i64 its[i].op.kind, .int .i64 its[i].op.n, .string its[i].op.data, .int .i64 its[i].res.e, .int .i64 its[i].res.n, .int .i64 its[i].res.k1, .int .i64 its[i].res.k2, .int .i64 its[i].res.k3, .int .i64 its[i].res.k4, .int .i64 its[i].res.k5, .int .i64 its[i].res.k6]) 39 (0, 0))) w := hg.own (b, _) (by simp)
      refine WO.nilA hS ?_
      refine WA.pass 12 hS ?_
      refine WA.pass 13 hS ?_
      refine WA.nil ?_
      clear hS s1 t1
      repeat' (first
        | with_reducible refine QX.next ?_ | with_reducible refine WC.seq ?_ | with_reducible refine WC.region ?_ | with_reducible refine WC.block ?_ | with_reducible refine QX.bnorm ?_ | with_reducible refine QX.bret ?_ | with_reducible refine QX.ret ?_ | with_reducible refine QX.exit ?_ | with_reducible refine QX.bsame ?_ | with_reducible refine QX.bother rfl ?_
        | with_reducible refine WO.nil ?_ | with_reducible refine WC.skip ?_ | with_reducible refine WC.ret ?_ | with_reducible refine WC.exit ?_ | ((with_reducible refine WC.id ?_); first | refine WC.condT rfl ?_ | refine WC.condF rfl ?_)
        | ((with_reducible refine WQ.cid ?_); first | refine WQ.xG ?_ | refine WQ.pure ?_)
        | ((with_reducible refine WQ.gid ?_); first | refine WQ.on rfl ?_ | refine WQ.offN rfl rfl ?_)
        | ((with_reducible refine WO.cid ?_); first
          | refine WO.x ?_ | (refine op_alloc hg ?_; clear hg; intro b w hg; refine WO.fr ?_) | (refine op_boxA hg ?_; clear hg; intro b w hg; refine WO.fr ?_) | (refine op_box1 hg ?_; clear hg; intro b w hg; refine WO.fr ?_)
          | (refine op_store hg ?_; clear hg; intro w hg; refine WO.fr ?_; try simp only [List.set_cons_succ, List.set_cons_zero] at hg)
          | (refine op_storeA hg ?_; clear hg; intro w hg; refine WO.fr ?_; try simp only [over, List.take_zero, List.take_succ_cons, List.drop_zero, List.drop_succ_cons, List.nil_append, List.cons_append, List.append_nil, List.length_cons, List.length_nil, Nat.zero_add, Nat.reduceAdd, splice, cellsL] at hg)
          | (refine op_pure hg ?_; clear hg; intro w hg; refine WO.fr ?_) | (refine op_pureB hg ?_; clear hg; intro w hg c hc; cases c <;> refine WO.fr ?_))
        | ((with_reducible refine WO.gid ?_); first | refine WO.on rfl ?_ | refine WO.offN rfl rfl ?_))
      have hI2 : Inv (L) := hI
      have hH2 : HF pm (L).events h2' := by simpa using hH'
      have hL2 : LogF pl (L) h1 := hL
      have hle2 : (L).events.length ≤ i + 1 ∧ (L).deeds.length ≤ i + 1 := by constructor <;> (try simp [LogS.inv, LogS.com, LogS.res]) <;> omega
      generalize L = L2 at hI2 hH2 hL2 hle2
      refine op_call (Of_spec its[i].client (hg.front 1).owns1 hL2) ?_
      rintro _ w2 ⟨rfl, hg2⟩
      replace hg := (hg.front 1).callF hg2
      clear hg2
      refine ⟨_, rfl, ?_⟩
      refine WO.fr ?_
      repeat' (first
        | with_reducible refine QX.next ?_ | with_reducible refine WC.seq ?_ | with_reducible refine WC.region ?_ | with_reducible refine WC.block ?_ | with_reducible refine QX.bnorm ?_ | with_reducible refine QX.bret ?_ | with_reducible refine QX.ret ?_ | with_reducible refine QX.exit ?_ | with_reducible refine QX.bsame ?_ | with_reducible refine QX.bother rfl ?_
        | with_reducible refine WO.nil ?_ | with_reducible refine WC.skip ?_ | with_reducible refine WC.ret ?_ | with_reducible refine WC.exit ?_ | ((with_reducible refine WC.id ?_); first | refine WC.condT rfl ?_ | refine WC.condF rfl ?_)
        | ((with_reducible refine WQ.cid ?_); first | refine WQ.xG ?_ | refine WQ.pure ?_)
        | ((with_reducible refine WQ.gid ?_); first | refine WQ.on rfl ?_ | refine WQ.offN rfl rfl ?_)
        | ((with_reducible refine WO.cid ?_); first
          | refine WO.x ?_ | (refine op_alloc hg ?_; clear hg; intro b w hg; refine WO.fr ?_) | (refine op_boxA hg ?_; clear hg; intro b w hg; refine WO.fr ?_) | (refine op_box1 hg ?_; clear hg; intro b w hg; refine WO.fr ?_)
          | (refine op_store hg ?_; clear hg; intro w hg; refine WO.fr ?_; try simp only [List.set_cons_succ, List.set_cons_zero] at hg)
          | (refine op_storeA hg ?_; clear hg; intro w hg; refine WO.fr ?_; try simp only [over, List.take_zero, List.take_succ_cons, List.drop_zero, List.drop_succ_cons, List.nil_append, List.cons_append, List.append_nil, List.length_cons, List.length_nil, Nat.zero_add, Nat.reduceAdd, splice, cellsL] at hg)
          | (refine op_pure hg ?_; clear hg; intro w hg; refine WO.fr ?_) | (refine op_pureB hg ?_; clear hg; intro w hg c hc; cases c <;> refine WO.fr ?_))
        | ((with_reducible refine WO.gid ?_); first | refine WO.on rfl ?_ | refine WO.offN rfl rfl ?_))
      refine op_call (HOf_spec its[i].client (hg.front 1).owns1 hH2 (by omega)) ?_
      rintro x w2 ⟨hx, hg2⟩
      replace hx := hx.trans (congrArg Ending.returned (hI2.of_same its[i].client))
      subst hx
      replace hg := (hg.front 1).callF hg2
      clear hg2
      refine ⟨_, rfl, ?_⟩
      refine WO.fr ?_
      generalize (mget L2.of its[i].client).getD 0 = gx
      generalize (mget L2.of its[i].client).isSome = gb
      have hL3 := hL2
      have hH3 := hH2
      obtain ⟨_, fe, fd, _, rfl, @⟨ae, ad, ce, cd, bm, clock, es, _, _, he, hd, hm⟩⟩ := hL2
      obtain ⟨am, cm, fm, rfl, hmo⟩ := hH2
      replace hg := (hg.pair.front 2).four
      have p1 : ∀ {w : World} {Fs : List Frag}, Goes w0 [] ([(pl, .cells [.slice ae L2.events.length ce, .slice ad L2.deeds.length cd, .map (some bm)].toArray 55 (0, 0))] :: Fs) w → Calls Try.prog 17 #[.pointer (some ⟨pl, 0, none⟩)] w _ := fun h => Len_pure (heap_cell (h.own (pl, .cells [.slice ae L2.events.length ce, .slice ad L2.deeds.length cd, .map (some bm)].toArray 55 (0, 0)) (by simp)) rfl)
      cases gb
      all_goals
        repeat' (first
          | with_reducible refine QX.next ?_ | with_reducible refine WC.seq ?_ | with_reducible refine WC.region ?_ | with_reducible refine WC.block ?_ | with_reducible refine QX.bnorm ?_ | with_reducible refine QX.bret ?_ | with_reducible refine QX.ret ?_ | with_reducible refine QX.exit ?_ | with_reducible refine QX.bsame ?_ | with_reducible refine QX.bother rfl ?_
          | with_reducible refine WO.nil ?_ | with_reducible refine WC.skip ?_ | with_reducible refine WC.ret ?_ | with_reducible refine WC.exit ?_ | ((with_reducible refine WC.id ?_); first | refine WC.condT rfl ?_ | refine WC.condF rfl ?_)
          | (refine WC.quietG hg ?_; clear hg) | ((with_reducible refine WQ.nilG ?_); intro w hg)
          | ((with_reducible refine WQ.cid ?_); first | refine WQ.xG ?_ | refine WQ.pure ?_)
          | ((with_reducible refine WQ.gid ?_); first | refine WQ.on rfl ?_ | refine WQ.offN rfl rfl ?_)
          | ((with_reducible refine WO.cid ?_); first
            | refine WO.x ?_ | (refine op_alloc hg ?_; clear hg; intro b w hg; refine WO.fr ?_) | (refine op_boxA hg ?_; clear hg; intro b w hg; refine WO.fr ?_) | (refine op_box1 hg ?_; clear hg; intro b w hg; refine WO.fr ?_)
            | (refine op_store hg ?_; clear hg; intro w hg; refine WO.fr ?_; try simp only [List.set_cons_succ, List.set_cons_zero] at hg)
            | (refine op_storeA hg ?_; clear hg; intro w hg; refine WO.fr ?_; try simp only [over, List.take_zero, List.take_succ_cons, List.drop_zero, List.drop_succ_cons, List.nil_append, List.cons_append, List.append_nil, List.length_cons, List.length_nil, Nat.zero_add, Nat.reduceAdd, splice, cellsL] at hg)
            | (refine op_pure hg ?_; clear hg; intro w hg; refine WO.fr ?_) | (refine op_pureB hg ?_; clear hg; intro w hg c hc; cases c <;> refine WO.fr ?_))
          | ((with_reducible refine WO.gid ?_); first | refine WO.on rfl ?_ | refine WO.offN rfl rfl ?_))
        with_reducible refine QX.norm ?_
        refine hK _ _ _ ?_ ?_ ?_
        · simp only [setAll, List.map_cons, List.map_nil, gt, List.set_cons_succ, List.set_cons_zero]
        all_goals simp only [List.map_cons, List.map_nil, gt, intOf]
        · exact ⟨i + 1, L2, _, _, trivial, rfl, hlt, hL3, hH3, hI2, hle2.1, hle2.2, hg.sub (by simp)⟩
        · omega
    · have hc := Commit_yes j d its[i].res (hg.front 1).owns1 hL (by omega) hdj hd0
      rw [← hid] at hc
      refine op_call hc ?_
      rintro _ w ⟨h1', rfl, hL', hg2⟩
      replace hg := (hg.front 1).callF hg2
      clear hg2 hc
      clear hS
      refine ⟨_, rfl, ?_⟩
      refine WO.fr ?_
      have hS : (fun w => w.heap[b]? = some (.cells (List.toArray [.int .i64 its[i].kind, .int .i64 its[i].client, .int .i64 its[i].id, .int .i64 its[i].op.kind, .int .i64 its[i].op.n, .string its[i].op.data, .int .i64 its[i].res.e, .int .i64 its[i].res.n, .int .i64 its[i].res.k1, .int .i64 its[i].res.k2, .int .i64 its[i].res.k3, .int .i64 its[i].res.k4, .int .i64 its[i].res.k5, .int .i64 its[i].res.k6]) 39 (0, 0))) w := hg.own (b, _) (by simp)
      refine WO.nilA hS ?_
      refine WA.only 11 ?_
      refine op_call (Later_spec 2 its[i].id its[i].res (hg.front 2).owns1 hH (by omega)) ?_
      rintro _ w ⟨h2', rfl, hH', hg2⟩
      replace hg := (hg.front 2).callF hg2
      clear hg2 hS
      rw [hlat] at hH' ⊢
      refine ⟨_, rfl, ?_⟩
      refine WO.fr ?_
      have hS : (fun w => w.heap[b]? = some (.cells (List.toArray [.int .i64 its[i].kind, .int .i64 its[i].client, .int .i64 its[i].id, .int .i64 its[i].op.kind, .int .i64 its[i].op.n, .string its[i].op.data, .int .i64 its[i].res.e, .int .i64 its[i].res.n, .int .i64 its[i].res.k1, .int .i64 its[i].res.k2, .int .i64 its[i].res.k3, .int .i64 its[i].res.k4, .int .i64 its[i].res.k5, .int .i64 its[i].res.k6]) 39 (0, 0))) w := hg.own (b, _) (by simp)
      refine WO.nilA hS ?_
      refine WA.pass 12 hS ?_
      refine WA.pass 13 hS ?_
      refine WA.nil ?_
      clear hS s1 t1
      repeat' (first
        | with_reducible refine QX.next ?_ | with_reducible refine WC.seq ?_ | with_reducible refine WC.region ?_ | with_reducible refine WC.block ?_ | with_reducible refine QX.bnorm ?_ | with_reducible refine QX.bret ?_ | with_reducible refine QX.ret ?_ | with_reducible refine QX.exit ?_ | with_reducible refine QX.bsame ?_ | with_reducible refine QX.bother rfl ?_
        | with_reducible refine WO.nil ?_ | with_reducible refine WC.skip ?_ | with_reducible refine WC.ret ?_ | with_reducible refine WC.exit ?_ | ((with_reducible refine WC.id ?_); first | refine WC.condT rfl ?_ | refine WC.condF rfl ?_)
        | ((with_reducible refine WQ.cid ?_); first | refine WQ.xG ?_ | refine WQ.pure ?_)
        | ((with_reducible refine WQ.gid ?_); first | refine WQ.on rfl ?_ | refine WQ.offN rfl rfl ?_)
        | ((with_reducible refine WO.cid ?_); first
          | refine WO.x ?_ | (refine op_alloc hg ?_; clear hg; intro b w hg; refine WO.fr ?_) | (refine op_boxA hg ?_; clear hg; intro b w hg; refine WO.fr ?_) | (refine op_box1 hg ?_; clear hg; intro b w hg; refine WO.fr ?_)
          | (refine op_store hg ?_; clear hg; intro w hg; refine WO.fr ?_; try simp only [List.set_cons_succ, List.set_cons_zero] at hg)
          | (refine op_storeA hg ?_; clear hg; intro w hg; refine WO.fr ?_; try simp only [over, List.take_zero, List.take_succ_cons, List.drop_zero, List.drop_succ_cons, List.nil_append, List.cons_append, List.append_nil, List.length_cons, List.length_nil, Nat.zero_add, Nat.reduceAdd, splice, cellsL] at hg)
          | (refine op_pure hg ?_; clear hg; intro w hg; refine WO.fr ?_) | (refine op_pureB hg ?_; clear hg; intro w hg c hc; cases c <;> refine WO.fr ?_))
        | ((with_reducible refine WO.gid ?_); first | refine WO.on rfl ?_ | refine WO.offN rfl rfl ?_))
      have hI2 : Inv (L.com j d its[i].res) := hI.com j d _ hdj hd0
      have hH2 : HF pm (L.com j d its[i].res).events h2' := by rw [hid] at hH'; simpa [LogS.com] using hH'
      have hL2 : LogF pl (L.com j d its[i].res) h1' := hL'
      have hle2 : (L.com j d its[i].res).events.length ≤ i + 1 ∧ (L.com j d its[i].res).deeds.length ≤ i + 1 := by constructor <;> (try simp [LogS.inv, LogS.com, LogS.res]) <;> omega
      generalize L.com j d its[i].res = L2 at hI2 hH2 hL2 hle2
      refine op_call (Of_spec its[i].client (hg.front 1).owns1 hL2) ?_
      rintro _ w2 ⟨rfl, hg2⟩
      replace hg := (hg.front 1).callF hg2
      clear hg2
      refine ⟨_, rfl, ?_⟩
      refine WO.fr ?_
      repeat' (first
        | with_reducible refine QX.next ?_ | with_reducible refine WC.seq ?_ | with_reducible refine WC.region ?_ | with_reducible refine WC.block ?_ | with_reducible refine QX.bnorm ?_ | with_reducible refine QX.bret ?_ | with_reducible refine QX.ret ?_ | with_reducible refine QX.exit ?_ | with_reducible refine QX.bsame ?_ | with_reducible refine QX.bother rfl ?_
        | with_reducible refine WO.nil ?_ | with_reducible refine WC.skip ?_ | with_reducible refine WC.ret ?_ | with_reducible refine WC.exit ?_ | ((with_reducible refine WC.id ?_); first | refine WC.condT rfl ?_ | refine WC.condF rfl ?_)
        | ((with_reducible refine WQ.cid ?_); first | refine WQ.xG ?_ | refine WQ.pure ?_)
        | ((with_reducible refine WQ.gid ?_); first | refine WQ.on rfl ?_ | refine WQ.offN rfl rfl ?_)
        | ((with_reducible refine WO.cid ?_); first
          | refine WO.x ?_ | (refine op_alloc hg ?_; clear hg; intro b w hg; refine WO.fr ?_) | (refine op_boxA hg ?_; clear hg; intro b w hg; refine WO.fr ?_) | (refine op_box1 hg ?_; clear hg; intro b w hg; refine WO.fr ?_)
          | (refine op_store hg ?_; clear hg; intro w hg; refine WO.fr ?_; try simp only [List.set_cons_succ, List.set_cons_zero] at hg)
          | (refine op_storeA hg ?_; clear hg; intro w hg; refine WO.fr ?_; try simp only [over, List.take_zero, List.take_succ_cons, List.drop_zero, List.drop_succ_cons, List.nil_append, List.cons_append, List.append_nil, List.length_cons, List.length_nil, Nat.zero_add, Nat.reduceAdd, splice, cellsL] at hg)
          | (refine op_pure hg ?_; clear hg; intro w hg; refine WO.fr ?_) | (refine op_pureB hg ?_; clear hg; intro w hg c hc; cases c <;> refine WO.fr ?_))
        | ((with_reducible refine WO.gid ?_); first | refine WO.on rfl ?_ | refine WO.offN rfl rfl ?_))
      refine op_call (HOf_spec its[i].client (hg.front 1).owns1 hH2 (by omega)) ?_
      rintro x w2 ⟨hx, hg2⟩
      replace hx := hx.trans (congrArg Ending.returned (hI2.of_same its[i].client))
      subst hx
      replace hg := (hg.front 1).callF hg2
      clear hg2
      refine ⟨_, rfl, ?_⟩
      refine WO.fr ?_
      generalize (mget L2.of its[i].client).getD 0 = gx
      generalize (mget L2.of its[i].client).isSome = gb
      have hL3 := hL2
      have hH3 := hH2
      obtain ⟨_, fe, fd, _, rfl, @⟨ae, ad, ce, cd, bm, clock, es, _, _, he, hd, hm⟩⟩ := hL2
      obtain ⟨am, cm, fm, rfl, hmo⟩ := hH2
      replace hg := (hg.pair.front 2).four
      have p1 : ∀ {w : World} {Fs : List Frag}, Goes w0 [] ([(pl, .cells [.slice ae L2.events.length ce, .slice ad L2.deeds.length cd, .map (some bm)].toArray 55 (0, 0))] :: Fs) w → Calls Try.prog 17 #[.pointer (some ⟨pl, 0, none⟩)] w _ := fun h => Len_pure (heap_cell (h.own (pl, .cells [.slice ae L2.events.length ce, .slice ad L2.deeds.length cd, .map (some bm)].toArray 55 (0, 0)) (by simp)) rfl)
      cases gb
      all_goals
        repeat' (first
          | with_reducible refine QX.next ?_ | with_reducible refine WC.seq ?_ | with_reducible refine WC.region ?_ | with_reducible refine WC.block ?_ | with_reducible refine QX.bnorm ?_ | with_reducible refine QX.bret ?_ | with_reducible refine QX.ret ?_ | with_reducible refine QX.exit ?_ | with_reducible refine QX.bsame ?_ | with_reducible refine QX.bother rfl ?_
          | with_reducible refine WO.nil ?_ | with_reducible refine WC.skip ?_ | with_reducible refine WC.ret ?_ | with_reducible refine WC.exit ?_ | ((with_reducible refine WC.id ?_); first | refine WC.condT rfl ?_ | refine WC.condF rfl ?_)
          | (refine WC.quietG hg ?_; clear hg) | ((with_reducible refine WQ.nilG ?_); intro w hg)
          | ((with_reducible refine WQ.cid ?_); first | refine WQ.xG ?_ | refine WQ.pure ?_)
          | ((with_reducible refine WQ.gid ?_); first | refine WQ.on rfl ?_ | refine WQ.offN rfl rfl ?_)
          | ((with_reducible refine WO.cid ?_); first
            | refine WO.x ?_ | (refine op_alloc hg ?_; clear hg; intro b w hg; refine WO.fr ?_) | (refine op_boxA hg ?_; clear hg; intro b w hg; refine WO.fr ?_) | (refine op_box1 hg ?_; clear hg; intro b w hg; refine WO.fr ?_)
            | (refine op_store hg ?_; clear hg; intro w hg; refine WO.fr ?_; try simp only [List.set_cons_succ, List.set_cons_zero] at hg)
            | (refine op_storeA hg ?_; clear hg; intro w hg; refine WO.fr ?_; try simp only [over, List.take_zero, List.take_succ_cons, List.drop_zero, List.drop_succ_cons, List.nil_append, List.cons_append, List.append_nil, List.length_cons, List.length_nil, Nat.zero_add, Nat.reduceAdd, splice, cellsL] at hg)
            | (refine op_pure hg ?_; clear hg; intro w hg; refine WO.fr ?_) | (refine op_pureB hg ?_; clear hg; intro w hg c hc; cases c <;> refine WO.fr ?_))
          | ((with_reducible refine WO.gid ?_); first | refine WO.on rfl ?_ | refine WO.offN rfl rfl ?_))
        with_reducible refine QX.norm ?_
        refine hK _ _ _ ?_ ?_ ?_
        · simp only [setAll, List.map_cons, List.map_nil, gt, List.set_cons_succ, List.set_cons_zero]
        all_goals simp only [List.map_cons, List.map_nil, gt, intOf]
        · exact ⟨i + 1, L2, _, _, trivial, rfl, hlt, hL3, hH3, hI2, hle2.1, hle2.2, hg.sub (by simp)⟩
        · omega
  repeat' (first
    | with_reducible refine QX.next ?_ | with_reducible refine WC.seq ?_ | with_reducible refine WC.region ?_ | with_reducible refine WC.block ?_ | with_reducible refine QX.bnorm ?_ | with_reducible refine QX.bret ?_ | with_reducible refine QX.ret ?_ | with_reducible refine QX.exit ?_ | with_reducible refine QX.bsame ?_ | with_reducible refine QX.bother rfl ?_
    | with_reducible refine WO.nil ?_ | with_reducible refine WC.skip ?_ | with_reducible refine WC.ret ?_ | with_reducible refine WC.exit ?_ | ((with_reducible refine WC.id ?_); first | refine WC.condT rfl ?_ | refine WC.condF rfl ?_)
    | ((with_reducible refine WQ.cid ?_); first | refine WQ.xG ?_ | refine WQ.pure ?_)
    | ((with_reducible refine WQ.gid ?_); first | refine WQ.on rfl ?_ | refine WQ.offN rfl rfl ?_)
    | ((with_reducible refine WO.cid ?_); first
      | refine WO.x ?_ | (refine op_alloc hg ?_; clear hg; intro b w hg; refine WO.fr ?_) | (refine op_boxA hg ?_; clear hg; intro b w hg; refine WO.fr ?_) | (refine op_box1 hg ?_; clear hg; intro b w hg; refine WO.fr ?_)
      | (refine op_store hg ?_; clear hg; intro w hg; refine WO.fr ?_; try simp only [List.set_cons_succ, List.set_cons_zero] at hg)
      | (refine op_storeA hg ?_; clear hg; intro w hg; refine WO.fr ?_; try simp only [over, List.take_zero, List.take_succ_cons, List.drop_zero, List.drop_succ_cons, List.nil_append, List.cons_append, List.append_nil, List.length_cons, List.length_nil, Nat.zero_add, Nat.reduceAdd, splice, cellsL] at hg)
      | (refine op_pure hg ?_; clear hg; intro w hg; refine WO.fr ?_) | (refine op_pureB hg ?_; clear hg; intro w hg c hc; cases c <;> refine WO.fr ?_))
    | ((with_reducible refine WO.gid ?_); first | refine WO.on rfl ?_ | refine WO.offN rfl rfl ?_))
  have s1 : ∀ {w : World}, (w.heap[b]? = some (.cells (List.toArray [.int .i64 its[i].kind, .int .i64 its[i].client, .int .i64 its[i].id, .int .i64 its[i].op.kind, .int .i64 its[i].op.n, .string its[i].op.data, .int .i64 its[i].res.e, .int .i64 its[i].res.n, .int .i64 its[i].res.k1, .int .i64 its[i].res.k2, .int .i64 its[i].res.k3, .int .i64 its[i].res.k4, .int .i64 its[i].res.k5, .int .i64 its[i].res.k6]) 39 (0, 0))) → w.cell? ⟨b, 2, none⟩ = some (.int .i64 its[i].id) := fun h => heap_cell h rfl
  have t1 : ∀ {w : World}, (w.heap[b]? = some (.cells (List.toArray [.int .i64 its[i].kind, .int .i64 its[i].client, .int .i64 its[i].id, .int .i64 its[i].op.kind, .int .i64 its[i].op.n, .string its[i].op.data, .int .i64 its[i].res.e, .int .i64 its[i].res.n, .int .i64 its[i].res.k1, .int .i64 its[i].res.k2, .int .i64 its[i].res.k3, .int .i64 its[i].res.k4, .int .i64 its[i].res.k5, .int .i64 its[i].res.k6]) 39 (0, 0))) → Cells w ⟨b, 6, none⟩ [.int .i64 its[i].res.e, .int .i64 its[i].res.n, .int .i64 its[i].res.k1, .int .i64 its[i].res.k2, .int .i64 its[i].res.k3, .int .i64 its[i].res.k4, .int .i64 its[i].res.k5, .int .i64 its[i].res.k6] := fun h => heap_cells h rfl
  refine WC.drawn (fun w => w.heap[b]? = some (.cells (List.toArray [.int .i64 its[i].kind, .int .i64 its[i].client, .int .i64 its[i].id, .int .i64 its[i].op.kind, .int .i64 its[i].op.n, .string its[i].op.data, .int .i64 its[i].res.e, .int .i64 its[i].res.n, .int .i64 its[i].res.k1, .int .i64 its[i].res.k2, .int .i64 its[i].res.k3, .int .i64 its[i].res.k4, .int .i64 its[i].res.k5, .int .i64 its[i].res.k6]) 39 (0, 0))) [] hg ?_
  clear hg
  intro w hg
  have hS : (fun w => w.heap[b]? = some (.cells (List.toArray [.int .i64 its[i].kind, .int .i64 its[i].client, .int .i64 its[i].id, .int .i64 its[i].op.kind, .int .i64 its[i].op.n, .string its[i].op.data, .int .i64 its[i].res.e, .int .i64 its[i].res.n, .int .i64 its[i].res.k1, .int .i64 its[i].res.k2, .int .i64 its[i].res.k3, .int .i64 its[i].res.k4, .int .i64 its[i].res.k5, .int .i64 its[i].res.k6]) 39 (0, 0))) w := hg.own (b, _) (by simp)
  refine WA.pass 0 hS ?_
  refine WA.pass 1 hS ?_
  refine WA.pass 3 hS ?_
  refine WA.pass 6 hS ?_
  refine WA.pass 7 hS ?_
  refine WA.pass 9 hS ?_
  refine WA.passS 2 hS ?_
  refine WA.passS 4 hS ?_
  refine WA.passS 8 hS ?_
  refine WA.passS 10 hS ?_
  refine WA.only 5 ?_
  rcases hI.later3 its[i].id its[i].res with ⟨hlat, hno⟩ | ⟨j, d, hid, hdj, hd2, hlat⟩
  · refine op_call (Respond_none its[i].id its[i].res (hg.front 1).owns1 hL (by omega) hno) ?_
    rintro _ w ⟨rfl, hg2⟩
    replace hg := (hg.front 1).callF hg2
    clear hg2
    clear hS
    refine ⟨_, rfl, ?_⟩
    refine WO.fr ?_
    have hS : (fun w => w.heap[b]? = some (.cells (List.toArray [.int .i64 its[i].kind, .int .i64 its[i].client, .int .i64 its[i].id, .int .i64 its[i].op.kind, .int .i64 its[i].op.n, .string its[i].op.data, .int .i64 its[i].res.e, .int .i64 its[i].res.n, .int .i64 its[i].res.k1, .int .i64 its[i].res.k2, .int .i64 its[i].res.k3, .int .i64 its[i].res.k4, .int .i64 its[i].res.k5, .int .i64 its[i].res.k6]) 39 (0, 0))) w := hg.own (b, _) (by simp)
    refine WO.nilA hS ?_
    refine WA.only 11 ?_
    refine op_call (Later_spec 3 its[i].id its[i].res (hg.front 2).owns1 hH (by omega)) ?_
    rintro _ w ⟨h2', rfl, hH', hg2⟩
    replace hg := (hg.front 2).callF hg2
    clear hg2 hS
    rw [hlat] at hH' ⊢
    refine ⟨_, rfl, ?_⟩
    refine WO.fr ?_
    have hS : (fun w => w.heap[b]? = some (.cells (List.toArray [.int .i64 its[i].kind, .int .i64 its[i].client, .int .i64 its[i].id, .int .i64 its[i].op.kind, .int .i64 its[i].op.n, .string its[i].op.data, .int .i64 its[i].res.e, .int .i64 its[i].res.n, .int .i64 its[i].res.k1, .int .i64 its[i].res.k2, .int .i64 its[i].res.k3, .int .i64 its[i].res.k4, .int .i64 its[i].res.k5, .int .i64 its[i].res.k6]) 39 (0, 0))) w := hg.own (b, _) (by simp)
    refine WO.nilA hS ?_
    refine WA.pass 12 hS ?_
    refine WA.pass 13 hS ?_
    refine WA.nil ?_
    clear hS s1 t1
    repeat' (first
      | with_reducible refine QX.next ?_ | with_reducible refine WC.seq ?_ | with_reducible refine WC.region ?_ | with_reducible refine WC.block ?_ | with_reducible refine QX.bnorm ?_ | with_reducible refine QX.bret ?_ | with_reducible refine QX.ret ?_ | with_reducible refine QX.exit ?_ | with_reducible refine QX.bsame ?_ | with_reducible refine QX.bother rfl ?_
      | with_reducible refine WO.nil ?_ | with_reducible refine WC.skip ?_ | with_reducible refine WC.ret ?_ | with_reducible refine WC.exit ?_ | ((with_reducible refine WC.id ?_); first | refine WC.condT rfl ?_ | refine WC.condF rfl ?_)
      | ((with_reducible refine WQ.cid ?_); first | refine WQ.xG ?_ | refine WQ.pure ?_)
      | ((with_reducible refine WQ.gid ?_); first | refine WQ.on rfl ?_ | refine WQ.offN rfl rfl ?_)
      | ((with_reducible refine WO.cid ?_); first
        | refine WO.x ?_ | (refine op_alloc hg ?_; clear hg; intro b w hg; refine WO.fr ?_) | (refine op_boxA hg ?_; clear hg; intro b w hg; refine WO.fr ?_) | (refine op_box1 hg ?_; clear hg; intro b w hg; refine WO.fr ?_)
        | (refine op_store hg ?_; clear hg; intro w hg; refine WO.fr ?_; try simp only [List.set_cons_succ, List.set_cons_zero] at hg)
        | (refine op_storeA hg ?_; clear hg; intro w hg; refine WO.fr ?_; try simp only [over, List.take_zero, List.take_succ_cons, List.drop_zero, List.drop_succ_cons, List.nil_append, List.cons_append, List.append_nil, List.length_cons, List.length_nil, Nat.zero_add, Nat.reduceAdd, splice, cellsL] at hg)
        | (refine op_pure hg ?_; clear hg; intro w hg; refine WO.fr ?_) | (refine op_pureB hg ?_; clear hg; intro w hg c hc; cases c <;> refine WO.fr ?_))
      | ((with_reducible refine WO.gid ?_); first | refine WO.on rfl ?_ | refine WO.offN rfl rfl ?_))
    have hI2 : Inv (L) := hI
    have hH2 : HF pm (L).events h2' := by simpa using hH'
    have hL2 : LogF pl (L) h1 := hL
    have hle2 : (L).events.length ≤ i + 1 ∧ (L).deeds.length ≤ i + 1 := by constructor <;> (try simp [LogS.inv, LogS.com, LogS.res]) <;> omega
    generalize L = L2 at hI2 hH2 hL2 hle2
    refine op_call (Of_spec its[i].client (hg.front 1).owns1 hL2) ?_
    rintro _ w2 ⟨rfl, hg2⟩
    replace hg := (hg.front 1).callF hg2
    clear hg2
    refine ⟨_, rfl, ?_⟩
    refine WO.fr ?_
    repeat' (first
      | with_reducible refine QX.next ?_ | with_reducible refine WC.seq ?_ | with_reducible refine WC.region ?_ | with_reducible refine WC.block ?_ | with_reducible refine QX.bnorm ?_ | with_reducible refine QX.bret ?_ | with_reducible refine QX.ret ?_ | with_reducible refine QX.exit ?_ | with_reducible refine QX.bsame ?_ | with_reducible refine QX.bother rfl ?_
      | with_reducible refine WO.nil ?_ | with_reducible refine WC.skip ?_ | with_reducible refine WC.ret ?_ | with_reducible refine WC.exit ?_ | ((with_reducible refine WC.id ?_); first | refine WC.condT rfl ?_ | refine WC.condF rfl ?_)
      | ((with_reducible refine WQ.cid ?_); first | refine WQ.xG ?_ | refine WQ.pure ?_)
      | ((with_reducible refine WQ.gid ?_); first | refine WQ.on rfl ?_ | refine WQ.offN rfl rfl ?_)
      | ((with_reducible refine WO.cid ?_); first
        | refine WO.x ?_ | (refine op_alloc hg ?_; clear hg; intro b w hg; refine WO.fr ?_) | (refine op_boxA hg ?_; clear hg; intro b w hg; refine WO.fr ?_) | (refine op_box1 hg ?_; clear hg; intro b w hg; refine WO.fr ?_)
        | (refine op_store hg ?_; clear hg; intro w hg; refine WO.fr ?_; try simp only [List.set_cons_succ, List.set_cons_zero] at hg)
        | (refine op_storeA hg ?_; clear hg; intro w hg; refine WO.fr ?_; try simp only [over, List.take_zero, List.take_succ_cons, List.drop_zero, List.drop_succ_cons, List.nil_append, List.cons_append, List.append_nil, List.length_cons, List.length_nil, Nat.zero_add, Nat.reduceAdd, splice, cellsL] at hg)
        | (refine op_pure hg ?_; clear hg; intro w hg; refine WO.fr ?_) | (refine op_pureB hg ?_; clear hg; intro w hg c hc; cases c <;> refine WO.fr ?_))
      | ((with_reducible refine WO.gid ?_); first | refine WO.on rfl ?_ | refine WO.offN rfl rfl ?_))
    refine op_call (HOf_spec its[i].client (hg.front 1).owns1 hH2 (by omega)) ?_
    rintro x w2 ⟨hx, hg2⟩
    replace hx := hx.trans (congrArg Ending.returned (hI2.of_same its[i].client))
    subst hx
    replace hg := (hg.front 1).callF hg2
    clear hg2
    refine ⟨_, rfl, ?_⟩
    refine WO.fr ?_
    generalize (mget L2.of its[i].client).getD 0 = gx
    generalize (mget L2.of its[i].client).isSome = gb
    have hL3 := hL2
    have hH3 := hH2
    obtain ⟨_, fe, fd, _, rfl, @⟨ae, ad, ce, cd, bm, clock, es, _, _, he, hd, hm⟩⟩ := hL2
    obtain ⟨am, cm, fm, rfl, hmo⟩ := hH2
    replace hg := (hg.pair.front 2).four
    have p1 : ∀ {w : World} {Fs : List Frag}, Goes w0 [] ([(pl, .cells [.slice ae L2.events.length ce, .slice ad L2.deeds.length cd, .map (some bm)].toArray 55 (0, 0))] :: Fs) w → Calls Try.prog 17 #[.pointer (some ⟨pl, 0, none⟩)] w _ := fun h => Len_pure (heap_cell (h.own (pl, .cells [.slice ae L2.events.length ce, .slice ad L2.deeds.length cd, .map (some bm)].toArray 55 (0, 0)) (by simp)) rfl)
    cases gb
    all_goals
      repeat' (first
        | with_reducible refine QX.next ?_ | with_reducible refine WC.seq ?_ | with_reducible refine WC.region ?_ | with_reducible refine WC.block ?_ | with_reducible refine QX.bnorm ?_ | with_reducible refine QX.bret ?_ | with_reducible refine QX.ret ?_ | with_reducible refine QX.exit ?_ | with_reducible refine QX.bsame ?_ | with_reducible refine QX.bother rfl ?_
        | with_reducible refine WO.nil ?_ | with_reducible refine WC.skip ?_ | with_reducible refine WC.ret ?_ | with_reducible refine WC.exit ?_ | ((with_reducible refine WC.id ?_); first | refine WC.condT rfl ?_ | refine WC.condF rfl ?_)
        | (refine WC.quietG hg ?_; clear hg) | ((with_reducible refine WQ.nilG ?_); intro w hg)
        | ((with_reducible refine WQ.cid ?_); first | refine WQ.xG ?_ | refine WQ.pure ?_)
        | ((with_reducible refine WQ.gid ?_); first | refine WQ.on rfl ?_ | refine WQ.offN rfl rfl ?_)
        | ((with_reducible refine WO.cid ?_); first
          | refine WO.x ?_ | (refine op_alloc hg ?_; clear hg; intro b w hg; refine WO.fr ?_) | (refine op_boxA hg ?_; clear hg; intro b w hg; refine WO.fr ?_) | (refine op_box1 hg ?_; clear hg; intro b w hg; refine WO.fr ?_)
          | (refine op_store hg ?_; clear hg; intro w hg; refine WO.fr ?_; try simp only [List.set_cons_succ, List.set_cons_zero] at hg)
          | (refine op_storeA hg ?_; clear hg; intro w hg; refine WO.fr ?_; try simp only [over, List.take_zero, List.take_succ_cons, List.drop_zero, List.drop_succ_cons, List.nil_append, List.cons_append, List.append_nil, List.length_cons, List.length_nil, Nat.zero_add, Nat.reduceAdd, splice, cellsL] at hg)
          | (refine op_pure hg ?_; clear hg; intro w hg; refine WO.fr ?_) | (refine op_pureB hg ?_; clear hg; intro w hg c hc; cases c <;> refine WO.fr ?_))
        | ((with_reducible refine WO.gid ?_); first | refine WO.on rfl ?_ | refine WO.offN rfl rfl ?_))
      with_reducible refine QX.norm ?_
      refine hK _ _ _ ?_ ?_ ?_
      · simp only [setAll, List.map_cons, List.map_nil, gt, List.set_cons_succ, List.set_cons_zero]
      all_goals simp only [List.map_cons, List.map_nil, gt, intOf]
      · exact ⟨i + 1, L2, _, _, trivial, rfl, hlt, hL3, hH3, hI2, hle2.1, hle2.2, hg.sub (by simp)⟩
      · omega
  · have hc := Respond_some j d its[i].res (hg.front 1).owns1 hL (by omega) hdj hd2
    rw [← hid] at hc
    refine op_call hc ?_
    rintro _ w ⟨h1', hg2, ⟨hw, rfl, hL'⟩ | ⟨hw, rfl, hL'⟩⟩
    · rw [if_pos hw] at hlat
      replace hg := (hg.front 1).callF hg2
      clear hg2 hc
      clear hS
      refine ⟨_, rfl, ?_⟩
      refine WO.fr ?_
      have hS : (fun w => w.heap[b]? = some (.cells (List.toArray [.int .i64 its[i].kind, .int .i64 its[i].client, .int .i64 its[i].id, .int .i64 its[i].op.kind, .int .i64 its[i].op.n, .string its[i].op.data, .int .i64 its[i].res.e, .int .i64 its[i].res.n, .int .i64 its[i].res.k1, .int .i64 its[i].res.k2, .int .i64 its[i].res.k3, .int .i64 its[i].res.k4, .int .i64 its[i].res.k5, .int .i64 its[i].res.k6]) 39 (0, 0))) w := hg.own (b, _) (by simp)
      refine WO.nilA hS ?_
      refine WA.only 11 ?_
      refine op_call (Later_spec 3 its[i].id its[i].res (hg.front 2).owns1 hH (by omega)) ?_
      rintro _ w ⟨h2', rfl, hH', hg2⟩
      replace hg := (hg.front 2).callF hg2
      clear hg2 hS
      rw [hlat] at hH' ⊢
      refine ⟨_, rfl, ?_⟩
      refine WO.fr ?_
      have hS : (fun w => w.heap[b]? = some (.cells (List.toArray [.int .i64 its[i].kind, .int .i64 its[i].client, .int .i64 its[i].id, .int .i64 its[i].op.kind, .int .i64 its[i].op.n, .string its[i].op.data, .int .i64 its[i].res.e, .int .i64 its[i].res.n, .int .i64 its[i].res.k1, .int .i64 its[i].res.k2, .int .i64 its[i].res.k3, .int .i64 its[i].res.k4, .int .i64 its[i].res.k5, .int .i64 its[i].res.k6]) 39 (0, 0))) w := hg.own (b, _) (by simp)
      refine WO.nilA hS ?_
      refine WA.pass 12 hS ?_
      refine WA.pass 13 hS ?_
      refine WA.nil ?_
      clear hS s1 t1
      repeat' (first
        | with_reducible refine QX.next ?_ | with_reducible refine WC.seq ?_ | with_reducible refine WC.region ?_ | with_reducible refine WC.block ?_ | with_reducible refine QX.bnorm ?_ | with_reducible refine QX.bret ?_ | with_reducible refine QX.ret ?_ | with_reducible refine QX.exit ?_ | with_reducible refine QX.bsame ?_ | with_reducible refine QX.bother rfl ?_
        | with_reducible refine WO.nil ?_ | with_reducible refine WC.skip ?_ | with_reducible refine WC.ret ?_ | with_reducible refine WC.exit ?_ | ((with_reducible refine WC.id ?_); first | refine WC.condT rfl ?_ | refine WC.condF rfl ?_)
        | ((with_reducible refine WQ.cid ?_); first | refine WQ.xG ?_ | refine WQ.pure ?_)
        | ((with_reducible refine WQ.gid ?_); first | refine WQ.on rfl ?_ | refine WQ.offN rfl rfl ?_)
        | ((with_reducible refine WO.cid ?_); first
          | refine WO.x ?_ | (refine op_alloc hg ?_; clear hg; intro b w hg; refine WO.fr ?_) | (refine op_boxA hg ?_; clear hg; intro b w hg; refine WO.fr ?_) | (refine op_box1 hg ?_; clear hg; intro b w hg; refine WO.fr ?_)
          | (refine op_store hg ?_; clear hg; intro w hg; refine WO.fr ?_; try simp only [List.set_cons_succ, List.set_cons_zero] at hg)
          | (refine op_storeA hg ?_; clear hg; intro w hg; refine WO.fr ?_; try simp only [over, List.take_zero, List.take_succ_cons, List.drop_zero, List.drop_succ_cons, List.nil_append, List.cons_append, List.append_nil, List.length_cons, List.length_nil, Nat.zero_add, Nat.reduceAdd, splice, cellsL] at hg)
          | (refine op_pure hg ?_; clear hg; intro w hg; refine WO.fr ?_) | (refine op_pureB hg ?_; clear hg; intro w hg c hc; cases c <;> refine WO.fr ?_))
        | ((with_reducible refine WO.gid ?_); first | refine WO.on rfl ?_ | refine WO.offN rfl rfl ?_))
      have hI2 : Inv (L.res j d its[i].res) := hI.res j d _ hdj hd2
      have hH2 : HF pm (L.res j d its[i].res).events h2' := by rw [hid] at hH'; simpa [LogS.res] using hH'
      have hL2 : LogF pl (L.res j d its[i].res) h1' := hL'
      have hle2 : (L.res j d its[i].res).events.length ≤ i + 1 ∧ (L.res j d its[i].res).deeds.length ≤ i + 1 := by constructor <;> (try simp [LogS.inv, LogS.com, LogS.res]) <;> omega
      generalize L.res j d its[i].res = L2 at hI2 hH2 hL2 hle2
      refine op_call (Of_spec its[i].client (hg.front 1).owns1 hL2) ?_
      rintro _ w2 ⟨rfl, hg2⟩
      replace hg := (hg.front 1).callF hg2
      clear hg2
      refine ⟨_, rfl, ?_⟩
      refine WO.fr ?_
      repeat' (first
        | with_reducible refine QX.next ?_ | with_reducible refine WC.seq ?_ | with_reducible refine WC.region ?_ | with_reducible refine WC.block ?_ | with_reducible refine QX.bnorm ?_ | with_reducible refine QX.bret ?_ | with_reducible refine QX.ret ?_ | with_reducible refine QX.exit ?_ | with_reducible refine QX.bsame ?_ | with_reducible refine QX.bother rfl ?_
        | with_reducible refine WO.nil ?_ | with_reducible refine WC.skip ?_ | with_reducible refine WC.ret ?_ | with_reducible refine WC.exit ?_ | ((with_reducible refine WC.id ?_); first | refine WC.condT rfl ?_ | refine WC.condF rfl ?_)
        | ((with_reducible refine WQ.cid ?_); first | refine WQ.xG ?_ | refine WQ.pure ?_)
        | ((with_reducible refine WQ.gid ?_); first | refine WQ.on rfl ?_ | refine WQ.offN rfl rfl ?_)
        | ((with_reducible refine WO.cid ?_); first
          | refine WO.x ?_ | (refine op_alloc hg ?_; clear hg; intro b w hg; refine WO.fr ?_) | (refine op_boxA hg ?_; clear hg; intro b w hg; refine WO.fr ?_) | (refine op_box1 hg ?_; clear hg; intro b w hg; refine WO.fr ?_)
          | (refine op_store hg ?_; clear hg; intro w hg; refine WO.fr ?_; try simp only [List.set_cons_succ, List.set_cons_zero] at hg)
          | (refine op_storeA hg ?_; clear hg; intro w hg; refine WO.fr ?_; try simp only [over, List.take_zero, List.take_succ_cons, List.drop_zero, List.drop_succ_cons, List.nil_append, List.cons_append, List.append_nil, List.length_cons, List.length_nil, Nat.zero_add, Nat.reduceAdd, splice, cellsL] at hg)
          | (refine op_pure hg ?_; clear hg; intro w hg; refine WO.fr ?_) | (refine op_pureB hg ?_; clear hg; intro w hg c hc; cases c <;> refine WO.fr ?_))
        | ((with_reducible refine WO.gid ?_); first | refine WO.on rfl ?_ | refine WO.offN rfl rfl ?_))
      refine op_call (HOf_spec its[i].client (hg.front 1).owns1 hH2 (by omega)) ?_
      rintro x w2 ⟨hx, hg2⟩
      replace hx := hx.trans (congrArg Ending.returned (hI2.of_same its[i].client))
      subst hx
      replace hg := (hg.front 1).callF hg2
      clear hg2
      refine ⟨_, rfl, ?_⟩
      refine WO.fr ?_
      generalize (mget L2.of its[i].client).getD 0 = gx
      generalize (mget L2.of its[i].client).isSome = gb
      have hL3 := hL2
      have hH3 := hH2
      obtain ⟨_, fe, fd, _, rfl, @⟨ae, ad, ce, cd, bm, clock, es, _, _, he, hd, hm⟩⟩ := hL2
      obtain ⟨am, cm, fm, rfl, hmo⟩ := hH2
      replace hg := (hg.pair.front 2).four
      have p1 : ∀ {w : World} {Fs : List Frag}, Goes w0 [] ([(pl, .cells [.slice ae L2.events.length ce, .slice ad L2.deeds.length cd, .map (some bm)].toArray 55 (0, 0))] :: Fs) w → Calls Try.prog 17 #[.pointer (some ⟨pl, 0, none⟩)] w _ := fun h => Len_pure (heap_cell (h.own (pl, .cells [.slice ae L2.events.length ce, .slice ad L2.deeds.length cd, .map (some bm)].toArray 55 (0, 0)) (by simp)) rfl)
      cases gb
      all_goals
        repeat' (first
          | with_reducible refine QX.next ?_ | with_reducible refine WC.seq ?_ | with_reducible refine WC.region ?_ | with_reducible refine WC.block ?_ | with_reducible refine QX.bnorm ?_ | with_reducible refine QX.bret ?_ | with_reducible refine QX.ret ?_ | with_reducible refine QX.exit ?_ | with_reducible refine QX.bsame ?_ | with_reducible refine QX.bother rfl ?_
          | with_reducible refine WO.nil ?_ | with_reducible refine WC.skip ?_ | with_reducible refine WC.ret ?_ | with_reducible refine WC.exit ?_ | ((with_reducible refine WC.id ?_); first | refine WC.condT rfl ?_ | refine WC.condF rfl ?_)
          | (refine WC.quietG hg ?_; clear hg) | ((with_reducible refine WQ.nilG ?_); intro w hg)
          | ((with_reducible refine WQ.cid ?_); first | refine WQ.xG ?_ | refine WQ.pure ?_)
          | ((with_reducible refine WQ.gid ?_); first | refine WQ.on rfl ?_ | refine WQ.offN rfl rfl ?_)
          | ((with_reducible refine WO.cid ?_); first
            | refine WO.x ?_ | (refine op_alloc hg ?_; clear hg; intro b w hg; refine WO.fr ?_) | (refine op_boxA hg ?_; clear hg; intro b w hg; refine WO.fr ?_) | (refine op_box1 hg ?_; clear hg; intro b w hg; refine WO.fr ?_)
            | (refine op_store hg ?_; clear hg; intro w hg; refine WO.fr ?_; try simp only [List.set_cons_succ, List.set_cons_zero] at hg)
            | (refine op_storeA hg ?_; clear hg; intro w hg; refine WO.fr ?_; try simp only [over, List.take_zero, List.take_succ_cons, List.drop_zero, List.drop_succ_cons, List.nil_append, List.cons_append, List.append_nil, List.length_cons, List.length_nil, Nat.zero_add, Nat.reduceAdd, splice, cellsL] at hg)
            | (refine op_pure hg ?_; clear hg; intro w hg; refine WO.fr ?_) | (refine op_pureB hg ?_; clear hg; intro w hg c hc; cases c <;> refine WO.fr ?_))
          | ((with_reducible refine WO.gid ?_); first | refine WO.on rfl ?_ | refine WO.offN rfl rfl ?_))
        with_reducible refine QX.norm ?_
        refine hK _ _ _ ?_ ?_ ?_
        · simp only [setAll, List.map_cons, List.map_nil, gt, List.set_cons_succ, List.set_cons_zero]
        all_goals simp only [List.map_cons, List.map_nil, gt, intOf]
        · exact ⟨i + 1, L2, _, _, trivial, rfl, hlt, hL3, hH3, hI2, hle2.1, hle2.2, hg.sub (by simp)⟩
        · omega
    · rw [if_neg hw] at hlat
      replace hg := (hg.front 1).callF hg2
      clear hg2 hc
      clear hS
      refine ⟨_, rfl, ?_⟩
      refine WO.fr ?_
      have hS : (fun w => w.heap[b]? = some (.cells (List.toArray [.int .i64 its[i].kind, .int .i64 its[i].client, .int .i64 its[i].id, .int .i64 its[i].op.kind, .int .i64 its[i].op.n, .string its[i].op.data, .int .i64 its[i].res.e, .int .i64 its[i].res.n, .int .i64 its[i].res.k1, .int .i64 its[i].res.k2, .int .i64 its[i].res.k3, .int .i64 its[i].res.k4, .int .i64 its[i].res.k5, .int .i64 its[i].res.k6]) 39 (0, 0))) w := hg.own (b, _) (by simp)
      refine WO.nilA hS ?_
      refine WA.only 11 ?_
      refine op_call (Later_spec 3 its[i].id its[i].res (hg.front 2).owns1 hH (by omega)) ?_
      rintro _ w ⟨h2', rfl, hH', hg2⟩
      replace hg := (hg.front 2).callF hg2
      clear hg2 hS
      rw [hlat] at hH' ⊢
      refine ⟨_, rfl, ?_⟩
      refine WO.fr ?_
      have hS : (fun w => w.heap[b]? = some (.cells (List.toArray [.int .i64 its[i].kind, .int .i64 its[i].client, .int .i64 its[i].id, .int .i64 its[i].op.kind, .int .i64 its[i].op.n, .string its[i].op.data, .int .i64 its[i].res.e, .int .i64 its[i].res.n, .int .i64 its[i].res.k1, .int .i64 its[i].res.k2, .int .i64 its[i].res.k3, .int .i64 its[i].res.k4, .int .i64 its[i].res.k5, .int .i64 its[i].res.k6]) 39 (0, 0))) w := hg.own (b, _) (by simp)
      refine WO.nilA hS ?_
      refine WA.pass 12 hS ?_
      refine WA.pass 13 hS ?_
      refine WA.nil ?_
      clear hS s1 t1
      repeat' (first
        | with_reducible refine QX.next ?_ | with_reducible refine WC.seq ?_ | with_reducible refine WC.region ?_ | with_reducible refine WC.block ?_ | with_reducible refine QX.bnorm ?_ | with_reducible refine QX.bret ?_ | with_reducible refine QX.ret ?_ | with_reducible refine QX.exit ?_ | with_reducible refine QX.bsame ?_ | with_reducible refine QX.bother rfl ?_
        | with_reducible refine WO.nil ?_ | with_reducible refine WC.skip ?_ | with_reducible refine WC.ret ?_ | with_reducible refine WC.exit ?_ | ((with_reducible refine WC.id ?_); first | refine WC.condT rfl ?_ | refine WC.condF rfl ?_)
        | ((with_reducible refine WQ.cid ?_); first | refine WQ.xG ?_ | refine WQ.pure ?_)
        | ((with_reducible refine WQ.gid ?_); first | refine WQ.on rfl ?_ | refine WQ.offN rfl rfl ?_)
        | ((with_reducible refine WO.cid ?_); first
          | refine WO.x ?_ | (refine op_alloc hg ?_; clear hg; intro b w hg; refine WO.fr ?_) | (refine op_boxA hg ?_; clear hg; intro b w hg; refine WO.fr ?_) | (refine op_box1 hg ?_; clear hg; intro b w hg; refine WO.fr ?_)
          | (refine op_store hg ?_; clear hg; intro w hg; refine WO.fr ?_; try simp only [List.set_cons_succ, List.set_cons_zero] at hg)
          | (refine op_storeA hg ?_; clear hg; intro w hg; refine WO.fr ?_; try simp only [over, List.take_zero, List.take_succ_cons, List.drop_zero, List.drop_succ_cons, List.nil_append, List.cons_append, List.append_nil, List.length_cons, List.length_nil, Nat.zero_add, Nat.reduceAdd, splice, cellsL] at hg)
          | (refine op_pure hg ?_; clear hg; intro w hg; refine WO.fr ?_) | (refine op_pureB hg ?_; clear hg; intro w hg c hc; cases c <;> refine WO.fr ?_))
        | ((with_reducible refine WO.gid ?_); first | refine WO.on rfl ?_ | refine WO.offN rfl rfl ?_))
      have hI2 : Inv (L) := hI
      have hH2 : HF pm (L).events h2' := by simpa using hH'
      have hL2 : LogF pl (L) h1' := hL'
      have hle2 : (L).events.length ≤ i + 1 ∧ (L).deeds.length ≤ i + 1 := by constructor <;> (try simp [LogS.inv, LogS.com, LogS.res]) <;> omega
      generalize L = L2 at hI2 hH2 hL2 hle2
      refine op_call (Of_spec its[i].client (hg.front 1).owns1 hL2) ?_
      rintro _ w2 ⟨rfl, hg2⟩
      replace hg := (hg.front 1).callF hg2
      clear hg2
      refine ⟨_, rfl, ?_⟩
      refine WO.fr ?_
      repeat' (first
        | with_reducible refine QX.next ?_ | with_reducible refine WC.seq ?_ | with_reducible refine WC.region ?_ | with_reducible refine WC.block ?_ | with_reducible refine QX.bnorm ?_ | with_reducible refine QX.bret ?_ | with_reducible refine QX.ret ?_ | with_reducible refine QX.exit ?_ | with_reducible refine QX.bsame ?_ | with_reducible refine QX.bother rfl ?_
        | with_reducible refine WO.nil ?_ | with_reducible refine WC.skip ?_ | with_reducible refine WC.ret ?_ | with_reducible refine WC.exit ?_ | ((with_reducible refine WC.id ?_); first | refine WC.condT rfl ?_ | refine WC.condF rfl ?_)
        | ((with_reducible refine WQ.cid ?_); first | refine WQ.xG ?_ | refine WQ.pure ?_)
        | ((with_reducible refine WQ.gid ?_); first | refine WQ.on rfl ?_ | refine WQ.offN rfl rfl ?_)
        | ((with_reducible refine WO.cid ?_); first
          | refine WO.x ?_ | (refine op_alloc hg ?_; clear hg; intro b w hg; refine WO.fr ?_) | (refine op_boxA hg ?_; clear hg; intro b w hg; refine WO.fr ?_) | (refine op_box1 hg ?_; clear hg; intro b w hg; refine WO.fr ?_)
          | (refine op_store hg ?_; clear hg; intro w hg; refine WO.fr ?_; try simp only [List.set_cons_succ, List.set_cons_zero] at hg)
          | (refine op_storeA hg ?_; clear hg; intro w hg; refine WO.fr ?_; try simp only [over, List.take_zero, List.take_succ_cons, List.drop_zero, List.drop_succ_cons, List.nil_append, List.cons_append, List.append_nil, List.length_cons, List.length_nil, Nat.zero_add, Nat.reduceAdd, splice, cellsL] at hg)
          | (refine op_pure hg ?_; clear hg; intro w hg; refine WO.fr ?_) | (refine op_pureB hg ?_; clear hg; intro w hg c hc; cases c <;> refine WO.fr ?_))
        | ((with_reducible refine WO.gid ?_); first | refine WO.on rfl ?_ | refine WO.offN rfl rfl ?_))
      refine op_call (HOf_spec its[i].client (hg.front 1).owns1 hH2 (by omega)) ?_
      rintro x w2 ⟨hx, hg2⟩
      replace hx := hx.trans (congrArg Ending.returned (hI2.of_same its[i].client))
      subst hx
      replace hg := (hg.front 1).callF hg2
      clear hg2
      refine ⟨_, rfl, ?_⟩
      refine WO.fr ?_
      generalize (mget L2.of its[i].client).getD 0 = gx
      generalize (mget L2.of its[i].client).isSome = gb
      have hL3 := hL2
      have hH3 := hH2
      obtain ⟨_, fe, fd, _, rfl, @⟨ae, ad, ce, cd, bm, clock, es, _, _, he, hd, hm⟩⟩ := hL2
      obtain ⟨am, cm, fm, rfl, hmo⟩ := hH2
      replace hg := (hg.pair.front 2).four
      have p1 : ∀ {w : World} {Fs : List Frag}, Goes w0 [] ([(pl, .cells [.slice ae L2.events.length ce, .slice ad L2.deeds.length cd, .map (some bm)].toArray 55 (0, 0))] :: Fs) w → Calls Try.prog 17 #[.pointer (some ⟨pl, 0, none⟩)] w _ := fun h => Len_pure (heap_cell (h.own (pl, .cells [.slice ae L2.events.length ce, .slice ad L2.deeds.length cd, .map (some bm)].toArray 55 (0, 0)) (by simp)) rfl)
      cases gb
      all_goals
        repeat' (first
          | with_reducible refine QX.next ?_ | with_reducible refine WC.seq ?_ | with_reducible refine WC.region ?_ | with_reducible refine WC.block ?_ | with_reducible refine QX.bnorm ?_ | with_reducible refine QX.bret ?_ | with_reducible refine QX.ret ?_ | with_reducible refine QX.exit ?_ | with_reducible refine QX.bsame ?_ | with_reducible refine QX.bother rfl ?_
          | with_reducible refine WO.nil ?_ | with_reducible refine WC.skip ?_ | with_reducible refine WC.ret ?_ | with_reducible refine WC.exit ?_ | ((with_reducible refine WC.id ?_); first | refine WC.condT rfl ?_ | refine WC.condF rfl ?_)
          | (refine WC.quietG hg ?_; clear hg) | ((with_reducible refine WQ.nilG ?_); intro w hg)
          | ((with_reducible refine WQ.cid ?_); first | refine WQ.xG ?_ | refine WQ.pure ?_)
          | ((with_reducible refine WQ.gid ?_); first | refine WQ.on rfl ?_ | refine WQ.offN rfl rfl ?_)
          | ((with_reducible refine WO.cid ?_); first
            | refine WO.x ?_ | (refine op_alloc hg ?_; clear hg; intro b w hg; refine WO.fr ?_) | (refine op_boxA hg ?_; clear hg; intro b w hg; refine WO.fr ?_) | (refine op_box1 hg ?_; clear hg; intro b w hg; refine WO.fr ?_)
            | (refine op_store hg ?_; clear hg; intro w hg; refine WO.fr ?_; try simp only [List.set_cons_succ, List.set_cons_zero] at hg)
            | (refine op_storeA hg ?_; clear hg; intro w hg; refine WO.fr ?_; try simp only [over, List.take_zero, List.take_succ_cons, List.drop_zero, List.drop_succ_cons, List.nil_append, List.cons_append, List.append_nil, List.length_cons, List.length_nil, Nat.zero_add, Nat.reduceAdd, splice, cellsL] at hg)
            | (refine op_pure hg ?_; clear hg; intro w hg; refine WO.fr ?_) | (refine op_pureB hg ?_; clear hg; intro w hg c hc; cases c <;> refine WO.fr ?_))
          | ((with_reducible refine WO.gid ?_); first | refine WO.on rfl ?_ | refine WO.offN rfl rfl ?_))
        with_reducible refine QX.norm ?_
        refine hK _ _ _ ?_ ?_ ?_
        · simp only [setAll, List.map_cons, List.map_nil, gt, List.set_cons_succ, List.set_cons_zero]
        all_goals simp only [List.map_cons, List.map_nil, gt, intOf]
        · exact ⟨i + 1, L2, _, _, trivial, rfl, hlt, hL3, hH3, hI2, hle2.1, hle2.2, hg.sub (by simp)⟩
        · omega
end Go.Proofs.Ytlomipcjkkjhiaa
