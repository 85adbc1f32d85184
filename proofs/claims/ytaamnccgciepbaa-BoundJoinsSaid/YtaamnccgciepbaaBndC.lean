/- bound: Rounds, Due. -/
import Derived.Test.YtaamnccgciepbaaBndB
namespace Go.Proofs.Ytaamnccgciepbaa
open Go Go.RowKit
set_option maxRecDepth 10000
set_option linter.unusedSimpArgs false
set_option linter.unusedVariables false

theorem endsL_le (c : Int) : ∀ (its : List Item) (i : Nat) (s o : Bool), (endsL c its i s o).length ≤ its.length
  | [], _, _, _ => by simp [endsL]
  | x :: xs, i, s, o => by
    have h1 := endsL_le c xs (i + 1) false false
    have h2 := endsL_le c xs (i + 1) (s || decide (who x c = 0)) (o || decide (who x c = 1))
    simp only [endsL]
    split <;> simp only [List.length_cons] <;> omega

set_option maxHeartbeats 4000000 in
theorem Rounds_spec (w : World) (a : Option Addr) (cap : Nat) (its : List Item) (c : Int) (hS : Sl w a cap 5 (its.map Item.enc)) :
    Calls Try.prog 9 #[.slice a its.length cap, .int .i64 c] w fun e w' => e = .returned (.int .i64 (endsL c its 0 false false).length) ∧ Goes w [] [] w' := by
  have hg := Goes.refl w
  refine enterM Try.func9 rfl (by simp only [Try.ntmps9, List.length_cons, List.length_nil, Nat.reduceAdd, Nat.reduceSub, List.replicate_succ, List.replicate_zero, List.cons_append, List.nil_append]; exact rfl) ?_
  repeat' (first
    | with_reducible refine QX.next ?_ | with_reducible refine WC.seq ?_ | with_reducible refine WC.region ?_ | with_reducible refine WC.block ?_ | with_reducible refine QX.bnorm ?_ | with_reducible refine QX.bret ?_ | with_reducible refine QX.ret ?_ | with_reducible refine QX.exit ?_ | with_reducible refine QX.bsame ?_ | with_reducible refine QX.bother rfl ?_
    | with_reducible refine WO.nil ?_ | with_reducible refine WC.skip ?_ | with_reducible refine WC.ret ?_ | with_reducible refine WC.exit ?_ | ((with_reducible refine WC.id ?_); first | refine WC.condT rfl ?_ | refine WC.condF rfl ?_)
    | (refine WC.quietG hg ?_; clear hg) | ((with_reducible refine WQ.nilG ?_); intro w hg)
    | ((with_reducible refine WQ.cid ?_); first | refine WQ.xG ?_ | refine WQ.pure ?_)
    | ((with_reducible refine WQ.gid ?_); first | refine WQ.on rfl ?_ | refine WQ.offN rfl rfl ?_)
    | ((with_reducible refine WO.cid ?_); first
      | refine WO.x ?_ | (refine op_alloc hg ?_; clear hg; intro b w hg; refine WO.fr ?_) | (refine op_boxA hg ?_; clear hg; intro b w hg; refine WO.fr ?_) | (refine op_box1 hg ?_; clear hg; intro b w hg; refine WO.fr ?_)
      | (refine op_store hg ?_; clear hg; intro w hg; refine WO.fr ?_; try simp only [List.set_cons_succ, List.set_cons_zero] at hg)
      | (refine op_storeA hg ?_; clear hg; intro w hg; refine WO.fr ?_; try simp only [over, List.take_zero, List.take_succ_cons, List.drop_zero, List.drop_succ_cons, List.nil_append, List.cons_append, List.append_nil, List.length_cons, List.length_nil, Nat.zero_add, Nat.reduceAdd, splice, cellsL] at hg)
      | (refine op_pure hg ?_; clear hg; intro w hg; refine WO.fr ?_) | (refine op_pureB hg ?_; clear hg; intro w hg c hc; cases c <;> refine WO.fr ?_))
    | ((with_reducible refine WO.gid ?_); first | refine WO.on rfl ?_ | refine WO.offN rfl rfl ?_))
  refine op_call (ends_spec _ _ 0 c rfl) ?_
  rintro e w2 ⟨bl, bf, bc, rfl, hg2⟩
  replace hg := hg.call0 hg2
  clear hg2
  refine ⟨_, rfl, ?_⟩
  repeat' (first
    | with_reducible refine QX.next ?_ | with_reducible refine WC.seq ?_ | with_reducible refine WC.region ?_ | with_reducible refine WC.block ?_ | with_reducible refine QX.bnorm ?_ | with_reducible refine QX.bret ?_ | with_reducible refine QX.ret ?_ | with_reducible refine QX.exit ?_ | with_reducible refine QX.bsame ?_ | with_reducible refine QX.bother rfl ?_
    | with_reducible refine WO.nil ?_ | with_reducible refine WC.skip ?_ | with_reducible refine WC.ret ?_ | with_reducible refine WC.exit ?_ | ((with_reducible refine WC.id ?_); first | refine WC.condT rfl ?_ | refine WC.condF rfl ?_)
    | (refine WC.quietG hg ?_; clear hg) | ((with_reducible refine WQ.nilG ?_); intro w hg)
    | ((with_reducible refine WQ.cid ?_); first | refine WQ.xG ?_ | refine WQ.pure ?_)
    | ((with_reducible refine WQ.gid ?_); first | refine WQ.on rfl ?_ | refine WQ.offN rfl rfl ?_)
    | ((with_reducible refine WO.cid ?_); first
      | refine WO.x ?_ | (refine op_alloc hg ?_; clear hg; intro b w hg; refine WO.fr ?_) | (refine op_boxA hg ?_; clear hg; intro b w hg; refine WO.fr ?_) | (refine op_box1 hg ?_; clear hg; intro b w hg; refine WO.fr ?_)
      | (refine op_store hg ?_; clear hg; intro w hg; refine WO.fr ?_; try simp only [List.set_cons_succ, List.set_cons_zero] at hg)
      | (refine op_storeA hg ?_; clear hg; intro w hg; refine WO.fr ?_; try simp only [over, List.take_zero, List.take_succ_cons, List.drop_zero, List.drop_succ_cons, List.nil_append, List.cons_append, List.append_nil, List.length_cons, List.length_nil, Nat.zero_add, Nat.reduceAdd, splice, cellsL] at hg)
      | (refine op_pure hg ?_; clear hg; intro w hg; refine WO.fr ?_) | (refine op_pureB hg ?_; clear hg; intro w hg c hc; cases c <;> refine WO.fr ?_))
    | ((with_reducible refine WO.gid ?_); first | refine WO.on rfl ?_ | refine WO.offN rfl rfl ?_))
  refine WC.frame (by first | (simp only [ev, gt, put, List.set_cons_succ, List.set_cons_zero, Nat.zero_add, Nat.add_zero, Nat.mul_one, Nat.reduceAdd, Nat.reduceMul, Int.toNat_natCast, Int.reduceToNat, List.map_cons, List.map_nil, List.cons_append, List.nil_append]; exact rfl) | simp only [ev, gt, put, List.set_cons_succ, List.set_cons_zero, Nat.zero_add, Nat.add_zero, Nat.mul_one, Nat.reduceAdd, Nat.reduceMul, Int.toNat_natCast, Int.reduceToNat, List.map_cons, List.map_nil, List.cons_append, List.nil_append]) ?_
  refine WC.rangeFunc (by first | (simp only [ev, gt, put, List.set_cons_succ, List.set_cons_zero, Nat.zero_add, Nat.add_zero, Nat.mul_one, Nat.reduceAdd, Nat.reduceMul, Int.toNat_natCast, Int.reduceToNat, List.map_cons, List.map_nil, List.cons_append, List.nil_append]; exact rfl) | simp only [ev, gt, put, List.set_cons_succ, List.set_cons_zero, Nat.zero_add, Nat.add_zero, Nat.mul_one, Nat.reduceAdd, Nat.reduceMul, Int.toNat_natCast, Int.reduceToNat, List.map_cons, List.map_nil, List.cons_append, List.nil_append]) hg ?_
  clear hg
  intro fn D L w3 hg
  replace hg := hg.front 5
  simp only [pull, pullIn] at hg
  replace hg := hg.join
  simp only [List.cons_append, List.nil_append] at hg
  refine (ends1_spec w3 L bf bl bc c a cap 0 its _ (fun pre h => h = [(b, .cells [.int .i64 pre.length].toArray 3 (0, 0)), (L, recO fn _ _ _ _ D .ready none)]) (fun _ _ => False) (by first | with_reducible assumption | ((with_reducible apply CellAt.cell (hg := hg)); (repeat (first | ((with_reducible apply CellAt.here); (first | exact rfl | with_reducible assumption)) | with_reducible apply CellAt.more | with_reducible apply CellAt.next)); done) | ((with_reducible apply hg.cellOld0); with_reducible assumption) | with_reducible exact c1 hg | with_reducible exact c2 hg | with_reducible exact c3 hg | with_reducible exact c4 hg | with_reducible exact c5 hg | with_reducible exact c6 hg) (by first | with_reducible assumption | ((with_reducible apply CellAt.cell (hg := hg)); (repeat (first | ((with_reducible apply CellAt.here); (first | exact rfl | with_reducible assumption)) | with_reducible apply CellAt.more | with_reducible apply CellAt.next)); done) | ((with_reducible apply hg.cellOld0); with_reducible assumption) | with_reducible exact c1 hg | with_reducible exact c2 hg | with_reducible exact c3 hg | with_reducible exact c4 hg | with_reducible exact c5 hg | with_reducible exact c6 hg) (by first | with_reducible assumption | ((with_reducible apply CellAt.cell (hg := hg)); (repeat (first | ((with_reducible apply CellAt.here); (first | exact rfl | with_reducible assumption)) | with_reducible apply CellAt.more | with_reducible apply CellAt.next)); done) | ((with_reducible apply hg.cellOld0); with_reducible assumption) | with_reducible exact c1 hg | with_reducible exact c2 hg | with_reducible exact c3 hg | with_reducible exact c4 hg | with_reducible exact c5 hg | with_reducible exact c6 hg) (hS.goes hg) ?_ ?_ ?_ ?_ ?_ hg.owns1 rfl).mono ?_
  · exact hg.apart (by simp [keys])
  · exact hg.apart (by simp [keys])
  · exact hg.apart (by simp [keys])
  · intro hne p hp
    exact hg.apartOld (hS.lt (by decide) hp (by simpa using hne)) (by simp)
  · rintro pre x w4 h hpre rfl hO
    have hg := hO.goes
    have hpl := Nat.le_trans (hpre.length_le) (endsL_le c (its.drop 0) 0 false false)
    have hlim := hS.lim
    simp only [List.length_append, List.length_map, List.length_cons, List.length_nil, List.drop_zero] at hpl hlim
    refine Yields.of hg (by repeat (first | with_reducible exact Turn.here | with_reducible apply Turn.more | with_reducible apply Turn.next)) rfl (by simp only [setL, List.set_cons_succ, List.set_cons_zero]; exact rfl) (fun X => ?_)
    repeat' (first
      | with_reducible refine QX.next ?_ | with_reducible refine WC.seq ?_ | with_reducible refine WC.region ?_ | with_reducible refine WC.block ?_ | with_reducible refine QX.bnorm ?_ | with_reducible refine QX.bret ?_ | with_reducible refine QX.ret ?_ | with_reducible refine QX.exit ?_ | with_reducible refine QX.bsame ?_ | with_reducible refine QX.bother rfl ?_
      | with_reducible refine WO.nil ?_ | with_reducible refine WC.skip ?_ | with_reducible refine WC.ret ?_ | with_reducible refine WC.exit ?_ | ((with_reducible refine WC.id ?_); first | refine WC.condT rfl ?_ | refine WC.condF rfl ?_)
      | (refine WC.quietG hg ?_; clear hg) | ((with_reducible refine WQ.nilG ?_); intro w hg)
      | ((with_reducible refine WQ.cid ?_); first | refine WQ.xG ?_ | refine WQ.pure ?_)
      | ((with_reducible refine WQ.gid ?_); first | refine WQ.on rfl ?_ | refine WQ.offN rfl rfl ?_)
      | ((with_reducible refine WO.cid ?_); first
        | refine WO.x ?_ | (refine op_alloc hg ?_; clear hg; intro b w hg; refine WO.fr ?_) | (refine op_boxA hg ?_; clear hg; intro b w hg; refine WO.fr ?_) | (refine op_box1 hg ?_; clear hg; intro b w hg; refine WO.fr ?_)
        | (refine op_store hg ?_; clear hg; intro w hg; refine WO.fr ?_; try simp only [List.set_cons_succ, List.set_cons_zero] at hg)
        | (refine op_storeA hg ?_; clear hg; intro w hg; refine WO.fr ?_; try simp only [over, List.take_zero, List.take_succ_cons, List.drop_zero, List.drop_succ_cons, List.nil_append, List.cons_append, List.append_nil, List.length_cons, List.length_nil, Nat.zero_add, Nat.reduceAdd, splice, cellsL] at hg)
        | (refine op_pure hg ?_; clear hg; intro w hg; refine WO.fr ?_) | (refine op_pureB hg ?_; clear hg; intro w hg c hc; cases c <;> refine WO.fr ?_))
      | ((with_reducible refine WO.gid ?_); first | refine WO.on rfl ?_ | refine WO.offN rfl rfl ?_))
    refine round_body hg (by repeat (first | with_reducible exact Turn.here | with_reducible apply Turn.more | with_reducible apply Turn.next)) ?_
    clear hg
    intro w5 hg
    repeat' (first
      | with_reducible refine QX.next ?_ | with_reducible refine WC.seq ?_ | with_reducible refine WC.region ?_ | with_reducible refine WC.block ?_ | with_reducible refine QX.bnorm ?_ | with_reducible refine QX.bret ?_ | with_reducible refine QX.ret ?_ | with_reducible refine QX.exit ?_ | with_reducible refine QX.bsame ?_ | with_reducible refine QX.bother rfl ?_
      | with_reducible refine WO.nil ?_ | with_reducible refine WC.skip ?_ | with_reducible refine WC.ret ?_ | with_reducible refine WC.exit ?_ | ((with_reducible refine WC.id ?_); first | refine WC.condT rfl ?_ | refine WC.condF rfl ?_)
      | (refine WC.quietG hg ?_; clear hg) | ((with_reducible refine WQ.nilG ?_); intro w hg)
      | ((with_reducible refine WQ.cid ?_); first | refine WQ.xG ?_ | refine WQ.pure ?_)
      | ((with_reducible refine WQ.gid ?_); first | refine WQ.on rfl ?_ | refine WQ.offN rfl rfl ?_)
      | ((with_reducible refine WO.cid ?_); first
        | refine WO.x ?_ | (refine op_alloc hg ?_; clear hg; intro b w hg; refine WO.fr ?_) | (refine op_boxA hg ?_; clear hg; intro b w hg; refine WO.fr ?_) | (refine op_box1 hg ?_; clear hg; intro b w hg; refine WO.fr ?_)
        | (refine op_store hg ?_; clear hg; intro w hg; refine WO.fr ?_; try simp only [List.set_cons_succ, List.set_cons_zero] at hg)
        | (refine op_storeA hg ?_; clear hg; intro w hg; refine WO.fr ?_; try simp only [over, List.take_zero, List.take_succ_cons, List.drop_zero, List.drop_succ_cons, List.nil_append, List.cons_append, List.append_nil, List.length_cons, List.length_nil, Nat.zero_add, Nat.reduceAdd, splice, cellsL] at hg)
        | (refine op_pure hg ?_; clear hg; intro w hg; refine WO.fr ?_) | (refine op_pureB hg ?_; clear hg; intro w hg c hc; cases c <;> refine WO.fr ?_))
      | ((with_reducible refine WO.gid ?_); first | refine WO.on rfl ?_ | refine WO.offN rfl rfl ?_))
    refine round_end hg (by repeat (first | with_reducible exact Turn.here | with_reducible apply Turn.more | with_reducible apply Turn.next)) (fun w6 hg => ?_)
    exact ⟨_, hg, .inl ⟨rfl, by simp⟩⟩
  · rintro e w4 ⟨⟨v, rfl⟩, h', hg2, rfl | ⟨_, _, hf⟩⟩
    · replace hg := hg.call1 hg2
      simp only [List.cons_append, List.nil_append] at hg
      refine ⟨⟨_, rfl⟩, range_norm hg (by repeat (first | with_reducible exact Turn.here | with_reducible apply Turn.more | with_reducible apply Turn.next)) (fun w5 hg => ?_)⟩
      clear hg2
      repeat' (first
        | with_reducible refine QX.next ?_ | with_reducible refine WC.seq ?_ | with_reducible refine WC.region ?_ | with_reducible refine WC.block ?_ | with_reducible refine QX.bnorm ?_ | with_reducible refine QX.bret ?_ | with_reducible refine QX.ret ?_ | with_reducible refine QX.exit ?_ | with_reducible refine QX.bsame ?_ | with_reducible refine QX.bother rfl ?_
        | with_reducible refine WO.nil ?_ | with_reducible refine WC.skip ?_ | with_reducible refine WC.ret ?_ | with_reducible refine WC.exit ?_ | ((with_reducible refine WC.id ?_); first | refine WC.condT rfl ?_ | refine WC.condF rfl ?_)
        | (refine WC.quietG hg ?_; clear hg) | ((with_reducible refine WQ.nilG ?_); intro w hg)
        | ((with_reducible refine WQ.cid ?_); first | refine WQ.xG ?_ | refine WQ.pure ?_)
        | ((with_reducible refine WQ.gid ?_); first | refine WQ.on rfl ?_ | refine WQ.offN rfl rfl ?_)
        | ((with_reducible refine WO.cid ?_); first
          | refine WO.x ?_ | (refine op_alloc hg ?_; clear hg; intro b w hg; refine WO.fr ?_) | (refine op_boxA hg ?_; clear hg; intro b w hg; refine WO.fr ?_) | (refine op_box1 hg ?_; clear hg; intro b w hg; refine WO.fr ?_)
          | (refine op_store hg ?_; clear hg; intro w hg; refine WO.fr ?_; try simp only [List.set_cons_succ, List.set_cons_zero] at hg)
          | (refine op_storeA hg ?_; clear hg; intro w hg; refine WO.fr ?_; try simp only [over, List.take_zero, List.take_succ_cons, List.drop_zero, List.drop_succ_cons, List.nil_append, List.cons_append, List.append_nil, List.length_cons, List.length_nil, Nat.zero_add, Nat.reduceAdd, splice, cellsL] at hg)
          | (refine op_pure hg ?_; clear hg; intro w hg; refine WO.fr ?_) | (refine op_pureB hg ?_; clear hg; intro w hg c hc; cases c <;> refine WO.fr ?_))
        | ((with_reducible refine WO.gid ?_); first | refine WO.on rfl ?_ | refine WO.offN rfl rfl ?_))
      exact retM (LV.mark hg (by repeat (first | with_reducible exact Turn.here | with_reducible apply Turn.more | with_reducible apply Turn.next)) (fun w hg => LV.nil (.tmp rfl .nil) ⟨rfl, hg.drop⟩))
    · exact hf.elim

/-- The answer of Due. -/
def dueA (c : Int) (its : List Item) (fr n : Int) : Int × Bool :=
  let i := (min (max fr 0) its.length).toNat
  if n < 1 then (i, true) else match (endsL c (its.drop i) i false false)[n.toNat - 1]? with
    | some x => (x, true)
    | none => (0, false)

set_option maxHeartbeats 4000000 in
theorem Due_spec (w : World) (a : Option Addr) (cap : Nat) (its : List Item) (c fr n : Int) (hS : Sl w a cap 5 (its.map Item.enc)) (hn : -9223372036854775808 ≤ n ∧ n ≤ 9223372036854775807) :
    Calls Try.prog 7 #[.slice a its.length cap, .int .i64 fr, .int .i64 c, .int .i64 n] w fun e w' => e = .returned (.tuple #[.int .i64 (dueA c its fr n).1, .bool (dueA c its fr n).2]) ∧ Goes w [] [] w' := by
  have hg := Goes.refl w
  obtain ⟨i, hi⟩ : ∃ i : Nat, min (max fr 0) (its.length : Int) = i := ⟨_, (Int.toNat_of_nonneg (by omega)).symm⟩
  have hil : i ≤ its.length := by omega
  by_cases h1 : n < 1
  · refine enterM Try.func7 rfl (by simp only [Try.ntmps7, List.length_cons, List.length_nil, Nat.reduceAdd, Nat.reduceSub, List.replicate_succ, List.replicate_zero, List.cons_append, List.nil_append]; exact rfl) ?_
    repeat' (first
      | with_reducible refine QX.next ?_ | with_reducible refine WC.seq ?_ | with_reducible refine WC.region ?_ | with_reducible refine WC.block ?_ | with_reducible refine QX.bnorm ?_ | with_reducible refine QX.bret ?_ | with_reducible refine QX.ret ?_ | with_reducible refine QX.exit ?_ | with_reducible refine QX.bsame ?_ | with_reducible refine QX.bother rfl ?_
      | with_reducible refine WO.nil ?_ | with_reducible refine WC.skip ?_ | with_reducible refine WC.ret ?_ | with_reducible refine WC.exit ?_ | ((with_reducible refine WC.id ?_); first | refine WC.condT rfl ?_ | refine WC.condF rfl ?_)
      | (refine WC.quietG hg ?_; clear hg) | ((with_reducible refine WQ.nilG ?_); intro w hg)
      | ((with_reducible refine WQ.cid ?_); first | refine WQ.xG ?_ | refine WQ.pure ?_)
      | ((with_reducible refine WQ.gid ?_); first | refine WQ.on rfl ?_ | refine WQ.offN rfl rfl ?_)
      | ((with_reducible refine WO.cid ?_); first
        | refine WO.x ?_ | (refine op_alloc hg ?_; clear hg; intro b w hg; refine WO.fr ?_) | (refine op_boxA hg ?_; clear hg; intro b w hg; refine WO.fr ?_) | (refine op_box1 hg ?_; clear hg; intro b w hg; refine WO.fr ?_)
        | (refine op_store hg ?_; clear hg; intro w hg; refine WO.fr ?_; try simp only [List.set_cons_succ, List.set_cons_zero] at hg)
        | (refine op_storeA hg ?_; clear hg; intro w hg; refine WO.fr ?_; try simp only [over, List.take_zero, List.take_succ_cons, List.drop_zero, List.drop_succ_cons, List.nil_append, List.cons_append, List.append_nil, List.length_cons, List.length_nil, Nat.zero_add, Nat.reduceAdd, splice, cellsL] at hg)
        | (refine op_pure hg ?_; clear hg; intro w hg; refine WO.fr ?_) | (refine op_pureB hg ?_; clear hg; intro w hg c hc; cases c <;> refine WO.fr ?_))
      | ((with_reducible refine WO.gid ?_); first | refine WO.on rfl ?_ | refine WO.offN rfl rfl ?_))
    refine retM (LV.nil (.cell inferInstance rfl (by first | with_reducible assumption | ((with_reducible apply CellAt.cell (hg := hg)); (repeat (first | ((with_reducible apply CellAt.here); (first | exact rfl | with_reducible assumption)) | with_reducible apply CellAt.more | with_reducible apply CellAt.next)); done) | ((with_reducible apply hg.cellOld0); with_reducible assumption) | with_reducible exact c1 hg | with_reducible exact c2 hg | with_reducible exact c3 hg | with_reducible exact c4 hg | with_reducible exact c5 hg | with_reducible exact c6 hg) (.cell inferInstance rfl (by first | with_reducible assumption | ((with_reducible apply CellAt.cell (hg := hg)); (repeat (first | ((with_reducible apply CellAt.here); (first | exact rfl | with_reducible assumption)) | with_reducible apply CellAt.more | with_reducible apply CellAt.next)); done) | ((with_reducible apply hg.cellOld0); with_reducible assumption) | with_reducible exact c1 hg | with_reducible exact c2 hg | with_reducible exact c3 hg | with_reducible exact c4 hg | with_reducible exact c5 hg | with_reducible exact c6 hg) .nil)) ⟨?_, hg.drop⟩)
    simp only [mkRes, dueA, h1, if_true, hi, Int.toNat_natCast]
  · refine enterM Try.func7 rfl (by simp only [Try.ntmps7, List.length_cons, List.length_nil, Nat.reduceAdd, Nat.reduceSub, List.replicate_succ, List.replicate_zero, List.cons_append, List.nil_append]; exact rfl) ?_
    repeat' (first
      | with_reducible refine QX.next ?_ | with_reducible refine WC.seq ?_ | with_reducible refine WC.region ?_ | with_reducible refine WC.block ?_ | with_reducible refine QX.bnorm ?_ | with_reducible refine QX.bret ?_ | with_reducible refine QX.ret ?_ | with_reducible refine QX.exit ?_ | with_reducible refine QX.bsame ?_ | with_reducible refine QX.bother rfl ?_
      | with_reducible refine WO.nil ?_ | with_reducible refine WC.skip ?_ | with_reducible refine WC.ret ?_ | with_reducible refine WC.exit ?_ | ((with_reducible refine WC.id ?_); first | refine WC.condT rfl ?_ | refine WC.condF rfl ?_)
      | (refine WC.quietG hg ?_; clear hg) | ((with_reducible refine WQ.nilG ?_); intro w hg)
      | ((with_reducible refine WQ.cid ?_); first | refine WQ.xG ?_ | refine WQ.pure ?_)
      | ((with_reducible refine WQ.gid ?_); first | refine WQ.on rfl ?_ | refine WQ.offN rfl rfl ?_)
      | ((with_reducible refine WO.cid ?_); first
        | refine WO.x ?_ | (refine op_alloc hg ?_; clear hg; intro b w hg; refine WO.fr ?_) | (refine op_boxA hg ?_; clear hg; intro b w hg; refine WO.fr ?_) | (refine op_box1 hg ?_; clear hg; intro b w hg; refine WO.fr ?_)
        | (refine op_store hg ?_; clear hg; intro w hg; refine WO.fr ?_; try simp only [List.set_cons_succ, List.set_cons_zero] at hg)
        | (refine op_storeA hg ?_; clear hg; intro w hg; refine WO.fr ?_; try simp only [over, List.take_zero, List.take_succ_cons, List.drop_zero, List.drop_succ_cons, List.nil_append, List.cons_append, List.append_nil, List.length_cons, List.length_nil, Nat.zero_add, Nat.reduceAdd, splice, cellsL] at hg)
        | (refine op_pure hg ?_; clear hg; intro w hg; refine WO.fr ?_) | (refine op_pureB hg ?_; clear hg; intro w hg c hc; cases c <;> refine WO.fr ?_))
      | ((with_reducible refine WO.gid ?_); first | refine WO.on rfl ?_ | refine WO.offN rfl rfl ?_))
    rw [hi]
    refine op_call (ends_spec _ _ i c rfl) ?_
    rintro e w2 ⟨bl, bf, bc, rfl, hg2⟩
    replace hg := hg.call0 hg2
    simp only [List.cons_append, List.nil_append] at hg
    clear hg2
    refine ⟨_, rfl, ?_⟩
    repeat' (first
      | with_reducible refine QX.next ?_ | with_reducible refine WC.seq ?_ | with_reducible refine WC.region ?_ | with_reducible refine WC.block ?_ | with_reducible refine QX.bnorm ?_ | with_reducible refine QX.bret ?_ | with_reducible refine QX.ret ?_ | with_reducible refine QX.exit ?_ | with_reducible refine QX.bsame ?_ | with_reducible refine QX.bother rfl ?_
      | with_reducible refine WO.nil ?_ | with_reducible refine WC.skip ?_ | with_reducible refine WC.ret ?_ | with_reducible refine WC.exit ?_ | ((with_reducible refine WC.id ?_); first | refine WC.condT rfl ?_ | refine WC.condF rfl ?_)
      | (refine WC.quietG hg ?_; clear hg) | ((with_reducible refine WQ.nilG ?_); intro w hg)
      | ((with_reducible refine WQ.cid ?_); first | refine WQ.xG ?_ | refine WQ.pure ?_)
      | ((with_reducible refine WQ.gid ?_); first | refine WQ.on rfl ?_ | refine WQ.offN rfl rfl ?_)
      | ((with_reducible refine WO.cid ?_); first
        | refine WO.x ?_ | (refine op_alloc hg ?_; clear hg; intro b w hg; refine WO.fr ?_) | (refine op_boxA hg ?_; clear hg; intro b w hg; refine WO.fr ?_) | (refine op_box1 hg ?_; clear hg; intro b w hg; refine WO.fr ?_)
        | (refine op_store hg ?_; clear hg; intro w hg; refine WO.fr ?_; try simp only [List.set_cons_succ, List.set_cons_zero] at hg)
        | (refine op_storeA hg ?_; clear hg; intro w hg; refine WO.fr ?_; try simp only [over, List.take_zero, List.take_succ_cons, List.drop_zero, List.drop_succ_cons, List.nil_append, List.cons_append, List.append_nil, List.length_cons, List.length_nil, Nat.zero_add, Nat.reduceAdd, splice, cellsL] at hg)
        | (refine op_pure hg ?_; clear hg; intro w hg; refine WO.fr ?_) | (refine op_pureB hg ?_; clear hg; intro w hg c hc; cases c <;> refine WO.fr ?_))
      | ((with_reducible refine WO.gid ?_); first | refine WO.on rfl ?_ | refine WO.offN rfl rfl ?_))
    refine WC.frame (by first | (simp only [ev, gt, put, List.set_cons_succ, List.set_cons_zero, Nat.zero_add, Nat.add_zero, Nat.mul_one, Nat.reduceAdd, Nat.reduceMul, Int.toNat_natCast, Int.reduceToNat, List.map_cons, List.map_nil, List.cons_append, List.nil_append]; exact rfl) | simp only [ev, gt, put, List.set_cons_succ, List.set_cons_zero, Nat.zero_add, Nat.add_zero, Nat.mul_one, Nat.reduceAdd, Nat.reduceMul, Int.toNat_natCast, Int.reduceToNat, List.map_cons, List.map_nil, List.cons_append, List.nil_append]) ?_
    refine WC.rangeFunc (by first | (simp only [ev, gt, put, List.set_cons_succ, List.set_cons_zero, Nat.zero_add, Nat.add_zero, Nat.mul_one, Nat.reduceAdd, Nat.reduceMul, Int.toNat_natCast, Int.reduceToNat, List.map_cons, List.map_nil, List.cons_append, List.nil_append]; exact rfl) | simp only [ev, gt, put, List.set_cons_succ, List.set_cons_zero, Nat.zero_add, Nat.add_zero, Nat.mul_one, Nat.reduceAdd, Nat.reduceMul, Int.toNat_natCast, Int.reduceToNat, List.map_cons, List.map_nil, List.cons_append, List.nil_append]) hg ?_
    clear hg
    intro fn D L w3 hg
    replace hg := (((hg.front 8).front 8).front 8).front 8
    simp only [pull, pullIn] at hg
    replace hg := hg.join.join.join.join
    simp only [List.cons_append, List.nil_append] at hg
    rename_i b7 _ b8 _ b9 _ _
    generalize hrc : recO fn _ _ _ _ D = rc at hg ⊢
    refine (ends1_spec w3 L bf bl bc c a cap i its _
      (fun pre h => (pre.length : Int) < n ∧ h = [(b, .cells [.int .i64 pre.length].toArray 3 (0, 0)), (b9, .cells [.bool false].toArray 4 (0, 0)), (b8, .cells [.int .i64 0].toArray 3 (0, 0)), (b7, .cells [.int .i64 n].toArray 3 (0, 0)), (L, rc .ready none)])
      (fun pre h => ∃ q x, pre = q ++ [x] ∧ (pre.length : Int) = n ∧ h = [(b, .cells [.int .i64 pre.length].toArray 3 (0, 0)), (b9, .cells [.bool true].toArray 4 (0, 0)), (b8, .cells [.int .i64 (x : Nat)].toArray 3 (0, 0)), (b7, .cells [.int .i64 n].toArray 3 (0, 0)), (L, rc .done (some .ret))])
      (by first | with_reducible assumption | ((with_reducible apply CellAt.cell (hg := hg)); (repeat (first | ((with_reducible apply CellAt.here); (first | exact rfl | with_reducible assumption)) | with_reducible apply CellAt.more | with_reducible apply CellAt.next)); done) | ((with_reducible apply hg.cellOld0); with_reducible assumption) | with_reducible exact c1 hg | with_reducible exact c2 hg | with_reducible exact c3 hg | with_reducible exact c4 hg | with_reducible exact c5 hg | with_reducible exact c6 hg) (by first | with_reducible assumption | ((with_reducible apply CellAt.cell (hg := hg)); (repeat (first | ((with_reducible apply CellAt.here); (first | exact rfl | with_reducible assumption)) | with_reducible apply CellAt.more | with_reducible apply CellAt.next)); done) | ((with_reducible apply hg.cellOld0); with_reducible assumption) | with_reducible exact c1 hg | with_reducible exact c2 hg | with_reducible exact c3 hg | with_reducible exact c4 hg | with_reducible exact c5 hg | with_reducible exact c6 hg) (by first | with_reducible assumption | ((with_reducible apply CellAt.cell (hg := hg)); (repeat (first | ((with_reducible apply CellAt.here); (first | exact rfl | with_reducible assumption)) | with_reducible apply CellAt.more | with_reducible apply CellAt.next)); done) | ((with_reducible apply hg.cellOld0); with_reducible assumption) | with_reducible exact c1 hg | with_reducible exact c2 hg | with_reducible exact c3 hg | with_reducible exact c4 hg | with_reducible exact c5 hg | with_reducible exact c6 hg) (hS.goes hg) ?_ ?_ ?_ ?_ ?_ hg.owns1 ⟨by simp; omega, rfl⟩).mono ?_
    · exact hg.apart (by simp [keys])
    · exact hg.apart (by simp [keys])
    · exact hg.apart (by simp [keys])
    · intro hne p hp
      exact hg.apartOld (hS.lt (by decide) hp (by simpa using hne)) (by simp)
    · rintro pre x w4 h hpre ⟨hpn, rfl⟩ hO
      subst hrc
      have hg := hO.goes
      have hpl := Nat.le_trans (hpre.length_le) (endsL_le c (its.drop i) i false false)
      have hlim := hS.lim
      simp only [List.length_append, List.length_map, List.length_cons, List.length_nil, List.length_drop] at hpl hlim
      by_cases he : (pre.length : Int) + 1 = n
      · refine Yields.of hg (by repeat (first | with_reducible exact Turn.here | with_reducible apply Turn.more | with_reducible apply Turn.next)) rfl (by simp only [setL, List.set_cons_succ, List.set_cons_zero]; exact rfl) (fun X => ?_)
        repeat' (first
          | with_reducible refine QX.next ?_ | with_reducible refine WC.seq ?_ | with_reducible refine WC.region ?_ | with_reducible refine WC.block ?_ | with_reducible refine QX.bnorm ?_ | with_reducible refine QX.bret ?_ | with_reducible refine QX.ret ?_ | with_reducible refine QX.exit ?_ | with_reducible refine QX.bsame ?_ | with_reducible refine QX.bother rfl ?_
          | with_reducible refine WO.nil ?_ | with_reducible refine WC.skip ?_ | with_reducible refine WC.ret ?_ | with_reducible refine WC.exit ?_ | ((with_reducible refine WC.id ?_); first | refine WC.condT rfl ?_ | refine WC.condF rfl ?_)
          | (refine WC.quietG hg ?_; clear hg) | ((with_reducible refine WQ.nilG ?_); intro w hg)
          | ((with_reducible refine WQ.cid ?_); first | refine WQ.xG ?_ | refine WQ.pure ?_)
          | ((with_reducible refine WQ.gid ?_); first | refine WQ.on rfl ?_ | refine WQ.offN rfl rfl ?_)
          | ((with_reducible refine WO.cid ?_); first
            | refine WO.x ?_ | (refine op_alloc hg ?_; clear hg; intro b w hg; refine WO.fr ?_) | (refine op_boxA hg ?_; clear hg; intro b w hg; refine WO.fr ?_) | (refine op_box1 hg ?_; clear hg; intro b w hg; refine WO.fr ?_)
            | (refine op_store hg ?_; clear hg; intro w hg; refine WO.fr ?_; try simp only [List.set_cons_succ, List.set_cons_zero] at hg)
            | (refine op_storeA hg ?_; clear hg; intro w hg; refine WO.fr ?_; try simp only [over, List.take_zero, List.take_succ_cons, List.drop_zero, List.drop_succ_cons, List.nil_append, List.cons_append, List.append_nil, List.length_cons, List.length_nil, Nat.zero_add, Nat.reduceAdd, splice, cellsL] at hg)
            | (refine op_pure hg ?_; clear hg; intro w hg; refine WO.fr ?_) | (refine op_pureB hg ?_; clear hg; intro w hg c hc; cases c <;> refine WO.fr ?_))
          | ((with_reducible refine WO.gid ?_); first | refine WO.on rfl ?_ | refine WO.offN rfl rfl ?_))
        refine round_body hg (by repeat (first | with_reducible exact Turn.here | with_reducible apply Turn.more | with_reducible apply Turn.next)) ?_
        clear hg
        intro w5 hg
        repeat' (first
          | with_reducible refine QX.next ?_ | with_reducible refine WC.seq ?_ | with_reducible refine WC.region ?_ | with_reducible refine WC.block ?_ | with_reducible refine QX.bnorm ?_ | with_reducible refine QX.bret ?_ | with_reducible refine QX.ret ?_ | with_reducible refine QX.exit ?_ | with_reducible refine QX.bsame ?_ | with_reducible refine QX.bother rfl ?_
          | with_reducible refine WO.nil ?_ | with_reducible refine WC.skip ?_ | with_reducible refine WC.ret ?_ | with_reducible refine WC.exit ?_ | ((with_reducible refine WC.id ?_); first | refine WC.condT rfl ?_ | refine WC.condF rfl ?_)
          | (refine WC.quietG hg ?_; clear hg) | ((with_reducible refine WQ.nilG ?_); intro w hg)
          | ((with_reducible refine WQ.cid ?_); first | refine WQ.xG ?_ | refine WQ.pure ?_)
          | ((with_reducible refine WQ.gid ?_); first | refine WQ.on rfl ?_ | refine WQ.offN rfl rfl ?_)
          | ((with_reducible refine WO.cid ?_); first
            | refine WO.x ?_ | (refine op_alloc hg ?_; clear hg; intro b w hg; refine WO.fr ?_) | (refine op_boxA hg ?_; clear hg; intro b w hg; refine WO.fr ?_) | (refine op_box1 hg ?_; clear hg; intro b w hg; refine WO.fr ?_)
            | (refine op_store hg ?_; clear hg; intro w hg; refine WO.fr ?_; try simp only [List.set_cons_succ, List.set_cons_zero] at hg)
            | (refine op_storeA hg ?_; clear hg; intro w hg; refine WO.fr ?_; try simp only [over, List.take_zero, List.take_succ_cons, List.drop_zero, List.drop_succ_cons, List.nil_append, List.cons_append, List.append_nil, List.length_cons, List.length_nil, Nat.zero_add, Nat.reduceAdd, splice, cellsL] at hg)
            | (refine op_pure hg ?_; clear hg; intro w hg; refine WO.fr ?_) | (refine op_pureB hg ?_; clear hg; intro w hg c hc; cases c <;> refine WO.fr ?_))
          | ((with_reducible refine WO.gid ?_); first | refine WO.on rfl ?_ | refine WO.offN rfl rfl ?_))
        refine round_ret hg (by repeat (first | with_reducible exact Turn.here | with_reducible apply Turn.more | with_reducible apply Turn.next)) (fun w6 hg => ?_)
        exact ⟨_, hg, .inr ⟨rfl, pre, x, rfl, by simp; omega, by simp⟩⟩
      · refine Yields.of hg (by repeat (first | with_reducible exact Turn.here | with_reducible apply Turn.more | with_reducible apply Turn.next)) rfl (by simp only [setL, List.set_cons_succ, List.set_cons_zero]; exact rfl) (fun X => ?_)
        repeat' (first
          | with_reducible refine QX.next ?_ | with_reducible refine WC.seq ?_ | with_reducible refine WC.region ?_ | with_reducible refine WC.block ?_ | with_reducible refine QX.bnorm ?_ | with_reducible refine QX.bret ?_ | with_reducible refine QX.ret ?_ | with_reducible refine QX.exit ?_ | with_reducible refine QX.bsame ?_ | with_reducible refine QX.bother rfl ?_
          | with_reducible refine WO.nil ?_ | with_reducible refine WC.skip ?_ | with_reducible refine WC.ret ?_ | with_reducible refine WC.exit ?_ | ((with_reducible refine WC.id ?_); first | refine WC.condT rfl ?_ | refine WC.condF rfl ?_)
          | (refine WC.quietG hg ?_; clear hg) | ((with_reducible refine WQ.nilG ?_); intro w hg)
          | ((with_reducible refine WQ.cid ?_); first | refine WQ.xG ?_ | refine WQ.pure ?_)
          | ((with_reducible refine WQ.gid ?_); first | refine WQ.on rfl ?_ | refine WQ.offN rfl rfl ?_)
          | ((with_reducible refine WO.cid ?_); first
            | refine WO.x ?_ | (refine op_alloc hg ?_; clear hg; intro b w hg; refine WO.fr ?_) | (refine op_boxA hg ?_; clear hg; intro b w hg; refine WO.fr ?_) | (refine op_box1 hg ?_; clear hg; intro b w hg; refine WO.fr ?_)
            | (refine op_store hg ?_; clear hg; intro w hg; refine WO.fr ?_; try simp only [List.set_cons_succ, List.set_cons_zero] at hg)
            | (refine op_storeA hg ?_; clear hg; intro w hg; refine WO.fr ?_; try simp only [over, List.take_zero, List.take_succ_cons, List.drop_zero, List.drop_succ_cons, List.nil_append, List.cons_append, List.append_nil, List.length_cons, List.length_nil, Nat.zero_add, Nat.reduceAdd, splice, cellsL] at hg)
            | (refine op_pure hg ?_; clear hg; intro w hg; refine WO.fr ?_) | (refine op_pureB hg ?_; clear hg; intro w hg c hc; cases c <;> refine WO.fr ?_))
          | ((with_reducible refine WO.gid ?_); first | refine WO.on rfl ?_ | refine WO.offN rfl rfl ?_))
        refine round_body hg (by repeat (first | with_reducible exact Turn.here | with_reducible apply Turn.more | with_reducible apply Turn.next)) ?_
        clear hg
        intro w5 hg
        repeat' (first
          | with_reducible refine QX.next ?_ | with_reducible refine WC.seq ?_ | with_reducible refine WC.region ?_ | with_reducible refine WC.block ?_ | with_reducible refine QX.bnorm ?_ | with_reducible refine QX.bret ?_ | with_reducible refine QX.ret ?_ | with_reducible refine QX.exit ?_ | with_reducible refine QX.bsame ?_ | with_reducible refine QX.bother rfl ?_
          | with_reducible refine WO.nil ?_ | with_reducible refine WC.skip ?_ | with_reducible refine WC.ret ?_ | with_reducible refine WC.exit ?_ | ((with_reducible refine WC.id ?_); first | refine WC.condT rfl ?_ | refine WC.condF rfl ?_)
          | (refine WC.quietG hg ?_; clear hg) | ((with_reducible refine WQ.nilG ?_); intro w hg)
          | ((with_reducible refine WQ.cid ?_); first | refine WQ.xG ?_ | refine WQ.pure ?_)
          | ((with_reducible refine WQ.gid ?_); first | refine WQ.on rfl ?_ | refine WQ.offN rfl rfl ?_)
          | ((with_reducible refine WO.cid ?_); first
            | refine WO.x ?_ | (refine op_alloc hg ?_; clear hg; intro b w hg; refine WO.fr ?_) | (refine op_boxA hg ?_; clear hg; intro b w hg; refine WO.fr ?_) | (refine op_box1 hg ?_; clear hg; intro b w hg; refine WO.fr ?_)
            | (refine op_store hg ?_; clear hg; intro w hg; refine WO.fr ?_; try simp only [List.set_cons_succ, List.set_cons_zero] at hg)
            | (refine op_storeA hg ?_; clear hg; intro w hg; refine WO.fr ?_; try simp only [over, List.take_zero, List.take_succ_cons, List.drop_zero, List.drop_succ_cons, List.nil_append, List.cons_append, List.append_nil, List.length_cons, List.length_nil, Nat.zero_add, Nat.reduceAdd, splice, cellsL] at hg)
            | (refine op_pure hg ?_; clear hg; intro w hg; refine WO.fr ?_) | (refine op_pureB hg ?_; clear hg; intro w hg c hc; cases c <;> refine WO.fr ?_))
          | ((with_reducible refine WO.gid ?_); first | refine WO.on rfl ?_ | refine WO.offN rfl rfl ?_))
        refine round_end hg (by repeat (first | with_reducible exact Turn.here | with_reducible apply Turn.more | with_reducible apply Turn.next)) (fun w6 hg => ?_)
        exact ⟨_, hg, .inl ⟨rfl, by simp; omega, by simp⟩⟩
    · subst hrc
      rintro e w4 ⟨⟨v, rfl⟩, h', hg2, ⟨hl, rfl⟩ | ⟨pre, hpre, q, x, rfl, hl, rfl⟩⟩
      · replace hg := hg.call1 hg2
        simp only [List.cons_append, List.nil_append] at hg
        refine ⟨⟨_, rfl⟩, range_norm hg (by repeat (first | with_reducible exact Turn.here | with_reducible apply Turn.more | with_reducible apply Turn.next)) (fun w5 hg => ?_)⟩
        clear hg2
        repeat' (first
          | with_reducible refine QX.next ?_ | with_reducible refine WC.seq ?_ | with_reducible refine WC.region ?_ | with_reducible refine WC.block ?_ | with_reducible refine QX.bnorm ?_ | with_reducible refine QX.bret ?_ | with_reducible refine QX.ret ?_ | with_reducible refine QX.exit ?_ | with_reducible refine QX.bsame ?_ | with_reducible refine QX.bother rfl ?_
          | with_reducible refine WO.nil ?_ | with_reducible refine WC.skip ?_ | with_reducible refine WC.ret ?_ | with_reducible refine WC.exit ?_ | ((with_reducible refine WC.id ?_); first | refine WC.condT rfl ?_ | refine WC.condF rfl ?_)
          | (refine WC.quietG hg ?_; clear hg) | ((with_reducible refine WQ.nilG ?_); intro w hg)
          | ((with_reducible refine WQ.cid ?_); first | refine WQ.xG ?_ | refine WQ.pure ?_)
          | ((with_reducible refine WQ.gid ?_); first | refine WQ.on rfl ?_ | refine WQ.offN rfl rfl ?_)
          | ((with_reducible refine WO.cid ?_); first
            | refine WO.x ?_ | (refine op_alloc hg ?_; clear hg; intro b w hg; refine WO.fr ?_) | (refine op_boxA hg ?_; clear hg; intro b w hg; refine WO.fr ?_) | (refine op_box1 hg ?_; clear hg; intro b w hg; refine WO.fr ?_)
            | (refine op_store hg ?_; clear hg; intro w hg; refine WO.fr ?_; try simp only [List.set_cons_succ, List.set_cons_zero] at hg)
            | (refine op_storeA hg ?_; clear hg; intro w hg; refine WO.fr ?_; try simp only [over, List.take_zero, List.take_succ_cons, List.drop_zero, List.drop_succ_cons, List.nil_append, List.cons_append, List.append_nil, List.length_cons, List.length_nil, Nat.zero_add, Nat.reduceAdd, splice, cellsL] at hg)
            | (refine op_pure hg ?_; clear hg; intro w hg; refine WO.fr ?_) | (refine op_pureB hg ?_; clear hg; intro w hg c hc; cases c <;> refine WO.fr ?_))
          | ((with_reducible refine WO.gid ?_); first | refine WO.on rfl ?_ | refine WO.offN rfl rfl ?_))
        refine retM (LV.mark hg (by repeat (first | with_reducible exact Turn.here | with_reducible apply Turn.more | with_reducible apply Turn.next)) (fun w hg => LV.nil (.cell inferInstance rfl (by first | with_reducible assumption | ((with_reducible apply CellAt.cell (hg := hg)); (repeat (first | ((with_reducible apply CellAt.here); (first | exact rfl | with_reducible assumption)) | with_reducible apply CellAt.more | with_reducible apply CellAt.next)); done) | ((with_reducible apply hg.cellOld0); with_reducible assumption) | with_reducible exact c1 hg | with_reducible exact c2 hg | with_reducible exact c3 hg | with_reducible exact c4 hg | with_reducible exact c5 hg | with_reducible exact c6 hg) (.cell inferInstance rfl (by first | with_reducible assumption | ((with_reducible apply CellAt.cell (hg := hg)); (repeat (first | ((with_reducible apply CellAt.here); (first | exact rfl | with_reducible assumption)) | with_reducible apply CellAt.more | with_reducible apply CellAt.next)); done) | ((with_reducible apply hg.cellOld0); with_reducible assumption) | with_reducible exact c1 hg | with_reducible exact c2 hg | with_reducible exact c3 hg | with_reducible exact c4 hg | with_reducible exact c5 hg | with_reducible exact c6 hg) .nil)) ⟨?_, hg.drop⟩))
        have he : (endsL c (its.drop i) i false false)[n.toNat - 1]? = none := List.getElem?_eq_none (by omega)
        simp only [mkRes, dueA, h1, if_false, hi, Int.toNat_natCast, he]
      · replace hg := hg.call1 hg2
        simp only [List.cons_append, List.nil_append] at hg
        refine ⟨⟨_, rfl⟩, range_done hg (by repeat (first | with_reducible exact Turn.here | with_reducible apply Turn.more | with_reducible apply Turn.next)) (fun w5 hg => ?_)⟩
        clear hg2
        repeat' (first
          | with_reducible refine QX.next ?_ | with_reducible refine WC.seq ?_ | with_reducible refine WC.region ?_ | with_reducible refine WC.block ?_ | with_reducible refine QX.bnorm ?_ | with_reducible refine QX.bret ?_ | with_reducible refine QX.ret ?_ | with_reducible refine QX.exit ?_ | with_reducible refine QX.bsame ?_ | with_reducible refine QX.bother rfl ?_
          | with_reducible refine WO.nil ?_ | with_reducible refine WC.skip ?_ | with_reducible refine WC.ret ?_ | with_reducible refine WC.exit ?_ | ((with_reducible refine WC.id ?_); first | refine WC.condT rfl ?_ | refine WC.condF rfl ?_)
          | (refine WC.quietG hg ?_; clear hg) | ((with_reducible refine WQ.nilG ?_); intro w hg)
          | ((with_reducible refine WQ.cid ?_); first | refine WQ.xG ?_ | refine WQ.pure ?_)
          | ((with_reducible refine WQ.gid ?_); first | refine WQ.on rfl ?_ | refine WQ.offN rfl rfl ?_)
          | ((with_reducible refine WO.cid ?_); first
            | refine WO.x ?_ | (refine op_alloc hg ?_; clear hg; intro b w hg; refine WO.fr ?_) | (refine op_boxA hg ?_; clear hg; intro b w hg; refine WO.fr ?_) | (refine op_box1 hg ?_; clear hg; intro b w hg; refine WO.fr ?_)
            | (refine op_store hg ?_; clear hg; intro w hg; refine WO.fr ?_; try simp only [List.set_cons_succ, List.set_cons_zero] at hg)
            | (refine op_storeA hg ?_; clear hg; intro w hg; refine WO.fr ?_; try simp only [over, List.take_zero, List.take_succ_cons, List.drop_zero, List.drop_succ_cons, List.nil_append, List.cons_append, List.append_nil, List.length_cons, List.length_nil, Nat.zero_add, Nat.reduceAdd, splice, cellsL] at hg)
            | (refine op_pure hg ?_; clear hg; intro w hg; refine WO.fr ?_) | (refine op_pureB hg ?_; clear hg; intro w hg c hc; cases c <;> refine WO.fr ?_))
          | ((with_reducible refine WO.gid ?_); first | refine WO.on rfl ?_ | refine WO.offN rfl rfl ?_))
        refine retM (LV.mark hg (by repeat (first | with_reducible exact Turn.here | with_reducible apply Turn.more | with_reducible apply Turn.next)) (fun w hg => LV.nil (.cell inferInstance rfl (by first | with_reducible assumption | ((with_reducible apply CellAt.cell (hg := hg)); (repeat (first | ((with_reducible apply CellAt.here); (first | exact rfl | with_reducible assumption)) | with_reducible apply CellAt.more | with_reducible apply CellAt.next)); done) | ((with_reducible apply hg.cellOld0); with_reducible assumption) | with_reducible exact c1 hg | with_reducible exact c2 hg | with_reducible exact c3 hg | with_reducible exact c4 hg | with_reducible exact c5 hg | with_reducible exact c6 hg) (.cell inferInstance rfl (by first | with_reducible assumption | ((with_reducible apply CellAt.cell (hg := hg)); (repeat (first | ((with_reducible apply CellAt.here); (first | exact rfl | with_reducible assumption)) | with_reducible apply CellAt.more | with_reducible apply CellAt.next)); done) | ((with_reducible apply hg.cellOld0); with_reducible assumption) | with_reducible exact c1 hg | with_reducible exact c2 hg | with_reducible exact c3 hg | with_reducible exact c4 hg | with_reducible exact c5 hg | with_reducible exact c6 hg) .nil)) ⟨?_, hg.drop⟩))
        have he : (endsL c (its.drop i) i false false)[n.toNat - 1]? = some x := by
          obtain ⟨r, hr⟩ := hpre
          simp at hl
          rw [← hr, List.append_assoc, List.getElem?_append_right (by omega), show n.toNat - 1 - q.length = 0 from by omega]
          simp
        simp only [mkRes, dueA, h1, if_false, hi, Int.toNat_natCast, he]
end Go.Proofs.Ytaamnccgciepbaa
