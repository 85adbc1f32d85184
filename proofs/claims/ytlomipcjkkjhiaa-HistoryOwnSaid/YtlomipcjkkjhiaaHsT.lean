/- HistoryTime: the law. -/
import Derived.Test.YtlomipcjkkjhiaaHsZ
import Derived.Test.YtlomipcjkkjhiaaHsR
namespace Go.Proofs.Ytlomipcjkkjhiaa
open Go Go.RowKit
set_option maxRecDepth 10000
set_option linter.unusedSimpArgs false
set_option linter.unusedVariables false

theorem ints_flat (os : List Int) : (os.map encI).flatten = os.map (Value.int .i64 ·) := by
  induction os with
  | nil => rfl
  | cons x xs ih => rw [List.map_cons, List.flatten_cons, ih]; rfl
theorem ints_get {cur : List Value} {os : List Int} (ht : cur.take (os.length * 1) = (os.map encI).flatten) (q : Nat) (h : q < os.length) : cur[q]? = some (.int .i64 os[q]) := by
  have e := congrArg (·[q]?) ht
  simp only [ints_flat, Nat.mul_one, List.getElem?_take, if_pos h, List.getElem?_map, List.getElem?_eq_getElem h] at e
  exact e

set_option maxHeartbeats 8000000 in
theorem HistoryTime_law (a : Option Addr) (cap : Nat) (its : List Ev) (x y : Int) (w0 : World) (hS : Sl w0 a cap 14 (its.map Ev.enc)) :
    Calls Try.prog 6 #[.slice a its.length cap, .int .i64 x, .int .i64 y] w0 fun e w' => e = .returned (.bool true) ∧ Goes w0 [] [] w' := by
  have hg := Goes.refl w0
  have p1 := alive_spec
  refine enter Try.func6 rfl (by simp only [Try.ntmps6, List.length_cons, List.length_nil, Nat.reduceAdd, Nat.reduceSub, List.replicate_succ, List.replicate_zero, List.cons_append, List.nil_append]; exact rfl) ?_
  repeat' (first
    | with_reducible refine QX.next ?_ | with_reducible refine WC.seq ?_ | with_reducible refine WC.region ?_ | with_reducible refine WC.block ?_ | with_reducible refine QX.bnorm ?_ | with_reducible refine QX.bret ?_ | with_reducible refine QX.ret ?_ | with_reducible refine QX.exit ?_ | with_reducible refine QX.bsame ?_ | with_reducible refine QX.bother rfl ?_
    | with_reducible refine WO.nil ?_ | with_reducible refine WC.skip ?_ | with_reducible refine WC.ret ?_ | with_reducible refine WC.exit ?_ | ((with_reducible refine WC.id ?_); first | refine WC.condT rfl ?_ | refine WC.condF rfl ?_)
    | (refine WC.quietG hg ?_; clear hg) | ((with_reducible refine WQ.nilG ?_); intro w hg)
    | ((with_reducible refine WQ.cid ?_); first | refine WQ.xG ?_ | refine WQ.pure ?_)
    | ((with_reducible refine WQ.gid ?_); first | refine WQ.on rfl ?_ | refine WQ.offN rfl rfl ?_)
    | ((with_reducible refine WO.cid ?_); first
      | refine WO.x ?_ | (refine op_alloc hg ?_; clear hg; intro b w hg; refine WO.fr ?_) | (refine op_boxA hg ?_; clear hg; intro b w hg; refine WO.fr ?_) | (refine op_box1 hg ?_; clear hg; intro b w hg; refine WO.fr ?_)
      | (refine op_store hg ?_; clear hg; intro w hg; refine WO.fr ?_; try simp only [List.set_cons_succ, List.set_cons_zero] at hg)
      | (refine op_storeA hg ?_; clear hg; intro w hg; refine WO.fr ?_; try simp only [over, List.take_zero, List.take_succ_cons, List.drop_zero, List.drop_succ_cons, List.nil_append, List.cons_append, List.append_nil, List.length_cons, List.length_nil, Nat.zero_add, Nat.reduceAdd, splice, cellsL] at hg)
      | (refine op_pure hg ?_; clear hg; intro w hg; refine WO.fr ?_) | (refine op_pureB hg ?_; clear hg; intro w hg c hc; cases c <;> refine WO.fr ?_))
    | ((with_reducible refine WO.gid ?_); first | refine WO.on rfl ?_ | refine WO.offN rfl rfl ?_))
  refine op_call (Far_spec _ a cap its (hS.goes hg)) ?_
  rintro _ w2 ⟨b, rfl, hb, hg2⟩
  replace hg := hg.call00 hg2
  clear hg2
  refine ⟨_, rfl, ?_⟩
  refine WO.fr ?_
  cases b with
  | true =>
    repeat' (first
      | with_reducible refine QX.next ?_ | with_reducible refine WC.seq ?_ | with_reducible refine WC.region ?_ | with_reducible refine WC.block ?_ | with_reducible refine QX.bnorm ?_ | with_reducible refine QX.bret ?_ | with_reducible refine QX.ret ?_ | with_reducible refine QX.exit ?_ | with_reducible refine QX.bsame ?_ | with_reducible refine QX.bother rfl ?_
      | with_reducible refine WO.nil ?_ | with_reducible refine WC.skip ?_ | with_reducible refine WC.ret ?_ | with_reducible refine WC.exit ?_ | ((with_reducible refine WC.id ?_); first | refine WC.condT rfl ?_ | refine WC.condF rfl ?_)
      | (refine WC.quietG hg ?_; clear hg) | ((with_reducible refine WQ.nilG ?_); intro w hg)
      | ((with_reducible refine WQ.cid ?_); first | refine WQ.xG ?_ | refine WQ.pure ?_)
      | ((with_reducible refine WQ.gid ?_); first | refine WQ.on rfl ?_ | refine WQ.offN rfl rfl ?_)
      | ((with_reducible refine WO.cid ?_); first
        | refine WO.x ?_ | (refine op_alloc hg ?_; clear hg; intro b w hg; refine WO.fr ?_) | (refine op_boxA hg ?_; clear hg; intro b w hg; refine WO.fr ?_) | (refine op_box1 hg ?_; clear hg; intro b w hg; refine WO.fr ?_)
        | (refine op_store hg ?_; clear hg; intro w hg; refine WO.fr ?_; try simp only [List.set_cons_succ, List.set_cons_zero] at hg)
        | (refine op_storeA hg ?_; clear hg; intro w hg; refine WO.fr ?_; try simp only [over, List.take_zero, List.take_succ_cons, List.drop_zero, List.drop_succ_cons, List.nil_append, List.cons_append, List.append_nil, List.length_cons, List.length_nil, Nat.zero_add, Nat.reduceAdd, splice, cellsL] at hg)
        | (refine op_pure hg ?_; clear hg; intro w hg; refine WO.fr ?_) | (refine op_pureB hg ?_; clear hg; intro w hg c hc; cases c <;> refine WO.fr ?_))
      | ((with_reducible refine WO.gid ?_); first | refine WO.on rfl ?_ | refine WO.offN rfl rfl ?_))
    exact ret1 rfl ⟨rfl, hg.drop⟩
  | false =>
    have hn := hb rfl
    repeat' (first
      | with_reducible refine QX.next ?_ | with_reducible refine WC.seq ?_ | with_reducible refine WC.region ?_ | with_reducible refine WC.block ?_ | with_reducible refine QX.bnorm ?_ | with_reducible refine QX.bret ?_ | with_reducible refine QX.ret ?_ | with_reducible refine QX.exit ?_ | with_reducible refine QX.bsame ?_ | with_reducible refine QX.bother rfl ?_
      | with_reducible refine WO.nil ?_ | with_reducible refine WC.skip ?_ | with_reducible refine WC.ret ?_ | with_reducible refine WC.exit ?_ | ((with_reducible refine WC.id ?_); first | refine WC.condT rfl ?_ | refine WC.condF rfl ?_)
      | (refine WC.quietG hg ?_; clear hg) | ((with_reducible refine WQ.nilG ?_); intro w hg)
      | ((with_reducible refine WQ.cid ?_); first | refine WQ.xG ?_ | refine WQ.pure ?_)
      | ((with_reducible refine WQ.gid ?_); first | refine WQ.on rfl ?_ | refine WQ.offN rfl rfl ?_)
      | ((with_reducible refine WO.cid ?_); first
        | refine WO.x ?_ | (refine op_alloc hg ?_; clear hg; intro b w hg; refine WO.fr ?_) | (refine op_boxA hg ?_; clear hg; intro b w hg; refine WO.fr ?_) | (refine op_box1 hg ?_; clear hg; intro b w hg; refine WO.fr ?_)
        | (refine op_store hg ?_; clear hg; intro w hg; refine WO.fr ?_; try simp only [List.set_cons_succ, List.set_cons_zero] at hg)
        | (refine op_storeA hg ?_; clear hg; intro w hg; refine WO.fr ?_; try simp only [over, List.take_zero, List.take_succ_cons, List.drop_zero, List.drop_succ_cons, List.nil_append, List.cons_append, List.append_nil, List.length_cons, List.length_nil, Nat.zero_add, Nat.reduceAdd, splice, cellsL] at hg)
        | (refine op_pure hg ?_; clear hg; intro w hg; refine WO.fr ?_) | (refine op_pureB hg ?_; clear hg; intro w hg c hc; cases c <;> refine WO.fr ?_))
      | ((with_reducible refine WO.gid ?_); first | refine WO.on rfl ?_ | refine WO.offN rfl rfl ?_))
    refine op_pure hg ?_ (hc := Before_spec _ a cap its x y (hS.goes hg) (by omega))
    clear hg
    intro w hg
    refine WO.fr ?_
    repeat' (first
      | with_reducible refine QX.next ?_ | with_reducible refine WC.seq ?_ | with_reducible refine WC.region ?_ | with_reducible refine WC.block ?_ | with_reducible refine QX.bnorm ?_ | with_reducible refine QX.bret ?_ | with_reducible refine QX.ret ?_ | with_reducible refine QX.exit ?_ | with_reducible refine QX.bsame ?_ | with_reducible refine QX.bother rfl ?_
      | with_reducible refine WO.nil ?_ | with_reducible refine WC.skip ?_ | with_reducible refine WC.ret ?_ | with_reducible refine WC.exit ?_ | ((with_reducible refine WC.id ?_); first | refine WC.condT rfl ?_ | refine WC.condF rfl ?_)
      | (refine WC.quietG hg ?_; clear hg) | ((with_reducible refine WQ.nilG ?_); intro w hg)
      | ((with_reducible refine WQ.cid ?_); first | refine WQ.xG ?_ | refine WQ.pure ?_)
      | ((with_reducible refine WQ.gid ?_); first | refine WQ.on rfl ?_ | refine WQ.offN rfl rfl ?_)
      | ((with_reducible refine WO.cid ?_); first
        | refine WO.x ?_ | (refine op_alloc hg ?_; clear hg; intro b w hg; refine WO.fr ?_) | (refine op_boxA hg ?_; clear hg; intro b w hg; refine WO.fr ?_) | (refine op_box1 hg ?_; clear hg; intro b w hg; refine WO.fr ?_)
        | (refine op_store hg ?_; clear hg; intro w hg; refine WO.fr ?_; try simp only [List.set_cons_succ, List.set_cons_zero] at hg)
        | (refine op_storeA hg ?_; clear hg; intro w hg; refine WO.fr ?_; try simp only [over, List.take_zero, List.take_succ_cons, List.drop_zero, List.drop_succ_cons, List.nil_append, List.cons_append, List.append_nil, List.length_cons, List.length_nil, Nat.zero_add, Nat.reduceAdd, splice, cellsL] at hg)
        | (refine op_pure hg ?_; clear hg; intro w hg; refine WO.fr ?_) | (refine op_pureB hg ?_; clear hg; intro w hg c hc; cases c <;> refine WO.fr ?_))
      | ((with_reducible refine WO.gid ?_); first | refine WO.on rfl ?_ | refine WO.offN rfl rfl ?_))
    refine op_pure hg ?_ (hc := rBefore_spec _ a cap its x y (hS.goes hg))
    clear hg
    intro w hg
    rw [bef_same]
    refine WO.fr ?_
    generalize befP its x y = bb
    cases bb
    all_goals
      repeat' (first
        | with_reducible refine QX.next ?_ | with_reducible refine WC.seq ?_ | with_reducible refine WC.region ?_ | with_reducible refine WC.block ?_ | with_reducible refine QX.bnorm ?_ | with_reducible refine QX.bret ?_ | with_reducible refine QX.ret ?_ | with_reducible refine QX.exit ?_ | with_reducible refine QX.bsame ?_ | with_reducible refine QX.bother rfl ?_
        | with_reducible refine WO.nil ?_ | with_reducible refine WC.skip ?_ | with_reducible refine WC.ret ?_ | with_reducible refine WC.exit ?_ | ((with_reducible refine WC.id ?_); first | refine WC.condT rfl ?_ | refine WC.condF rfl ?_)
        | (refine WC.quietG hg ?_; clear hg) | ((with_reducible refine WQ.nilG ?_); intro w hg)
        | ((with_reducible refine WQ.cid ?_); first | refine WQ.xG ?_ | refine WQ.pure ?_)
        | ((with_reducible refine WQ.gid ?_); first | refine WQ.on rfl ?_ | refine WQ.offN rfl rfl ?_)
        | ((with_reducible refine WO.cid ?_); first
          | refine WO.x ?_ | (refine op_alloc hg ?_; clear hg; intro b w hg; refine WO.fr ?_) | (refine op_boxA hg ?_; clear hg; intro b w hg; refine WO.fr ?_) | (refine op_box1 hg ?_; clear hg; intro b w hg; refine WO.fr ?_)
          | (refine op_store hg ?_; clear hg; intro w hg; refine WO.fr ?_; try simp only [List.set_cons_succ, List.set_cons_zero] at hg)
          | (refine op_storeA hg ?_; clear hg; intro w hg; refine WO.fr ?_; try simp only [over, List.take_zero, List.take_succ_cons, List.drop_zero, List.drop_succ_cons, List.nil_append, List.cons_append, List.append_nil, List.length_cons, List.length_nil, Nat.zero_add, Nat.reduceAdd, splice, cellsL] at hg)
          | (refine op_pure hg ?_; clear hg; intro w hg; refine WO.fr ?_) | (refine op_pureB hg ?_; clear hg; intro w hg c hc; cases c <;> refine WO.fr ?_))
        | ((with_reducible refine WO.gid ?_); first | refine WO.on rfl ?_ | refine WO.offN rfl rfl ?_))
      refine op_pure hg ?_ (hc := Right_spec _ a cap its (hS.goes hg) (by omega))
      clear hg
      intro w hg
      refine WO.fr ?_
      have hr := right_same its ⟨[], [], []⟩ Inv.empty
      cases hR : rightFrom ⟨[], [], []⟩ its with
      | false =>
        repeat' (first
          | with_reducible refine QX.next ?_ | with_reducible refine WC.seq ?_ | with_reducible refine WC.region ?_ | with_reducible refine WC.block ?_ | with_reducible refine QX.bnorm ?_ | with_reducible refine QX.bret ?_ | with_reducible refine QX.ret ?_ | with_reducible refine QX.exit ?_ | with_reducible refine QX.bsame ?_ | with_reducible refine QX.bother rfl ?_
          | with_reducible refine WO.nil ?_ | with_reducible refine WC.skip ?_ | with_reducible refine WC.ret ?_ | with_reducible refine WC.exit ?_ | ((with_reducible refine WC.id ?_); first | refine WC.condT rfl ?_ | refine WC.condF rfl ?_)
          | (refine WC.quietG hg ?_; clear hg) | ((with_reducible refine WQ.nilG ?_); intro w hg)
          | ((with_reducible refine WQ.cid ?_); first | refine WQ.xG ?_ | refine WQ.pure ?_)
          | ((with_reducible refine WQ.gid ?_); first | refine WQ.on rfl ?_ | refine WQ.offN rfl rfl ?_)
          | ((with_reducible refine WO.cid ?_); first
            | refine WO.x ?_ | (refine op_alloc hg ?_; clear hg; intro b w hg; refine WO.fr ?_) | (refine op_boxA hg ?_; clear hg; intro b w hg; refine WO.fr ?_) | (refine op_box1 hg ?_; clear hg; intro b w hg; refine WO.fr ?_)
            | (refine op_store hg ?_; clear hg; intro w hg; refine WO.fr ?_; try simp only [List.set_cons_succ, List.set_cons_zero] at hg)
            | (refine op_storeA hg ?_; clear hg; intro w hg; refine WO.fr ?_; try simp only [over, List.take_zero, List.take_succ_cons, List.drop_zero, List.drop_succ_cons, List.nil_append, List.cons_append, List.append_nil, List.length_cons, List.length_nil, Nat.zero_add, Nat.reduceAdd, splice, cellsL] at hg)
            | (refine op_pure hg ?_; clear hg; intro w hg; refine WO.fr ?_) | (refine op_pureB hg ?_; clear hg; intro w hg c hc; cases c <;> refine WO.fr ?_))
          | ((with_reducible refine WO.gid ?_); first | refine WO.on rfl ?_ | refine WO.offN rfl rfl ?_))
        exact ret1 rfl ⟨rfl, hg.drop⟩
      | true =>
      rw [hR] at hr
      replace hr : rRightFrom [] its = true := hr.symm
      clear hR
      have hT := List.pairwise_iff_getElem.1 (time_law hr)
      have hT2 := time_law2 hr
      repeat' (first
        | with_reducible refine QX.next ?_ | with_reducible refine WC.seq ?_ | with_reducible refine WC.region ?_ | with_reducible refine WC.block ?_ | with_reducible refine QX.bnorm ?_ | with_reducible refine QX.bret ?_ | with_reducible refine QX.ret ?_ | with_reducible refine QX.exit ?_ | with_reducible refine QX.bsame ?_ | with_reducible refine QX.bother rfl ?_
        | with_reducible refine WO.nil ?_ | with_reducible refine WC.skip ?_ | with_reducible refine WC.ret ?_ | with_reducible refine WC.exit ?_ | ((with_reducible refine WC.id ?_); first | refine WC.condT rfl ?_ | refine WC.condF rfl ?_)
        | (refine WC.quietG hg ?_; clear hg) | ((with_reducible refine WQ.nilG ?_); intro w hg)
        | ((with_reducible refine WQ.cid ?_); first | refine WQ.xG ?_ | refine WQ.pure ?_)
        | ((with_reducible refine WQ.gid ?_); first | refine WQ.on rfl ?_ | refine WQ.offN rfl rfl ?_)
        | ((with_reducible refine WO.cid ?_); first
          | refine WO.x ?_ | (refine op_alloc hg ?_; clear hg; intro b w hg; refine WO.fr ?_) | (refine op_boxA hg ?_; clear hg; intro b w hg; refine WO.fr ?_) | (refine op_box1 hg ?_; clear hg; intro b w hg; refine WO.fr ?_)
          | (refine op_store hg ?_; clear hg; intro w hg; refine WO.fr ?_; try simp only [List.set_cons_succ, List.set_cons_zero] at hg)
          | (refine op_storeA hg ?_; clear hg; intro w hg; refine WO.fr ?_; try simp only [over, List.take_zero, List.take_succ_cons, List.drop_zero, List.drop_succ_cons, List.nil_append, List.cons_append, List.append_nil, List.length_cons, List.length_nil, Nat.zero_add, Nat.reduceAdd, splice, cellsL] at hg)
          | (refine op_pure hg ?_; clear hg; intro w hg; refine WO.fr ?_) | (refine op_pureB hg ?_; clear hg; intro w hg c hc; cases c <;> refine WO.fr ?_))
        | ((with_reducible refine WO.gid ?_); first | refine WO.on rfl ?_ | refine WO.offN rfl rfl ?_))
      refine op_call (Order_spec _ a cap its (hS.goes hg) (by omega)) ?_
      rintro _ w2 ⟨a1, c1', f1, rfl, hO, hg2⟩
      replace hg := hg.call0 hg2
      clear hg2
      simp only [List.cons_append, List.nil_append] at hg
      refine ⟨_, rfl, ?_⟩
      refine WO.fr ?_
      have hol := ordL_le its
      generalize ordL its = os at hT hO hol
      repeat' (first
        | with_reducible refine QX.next ?_ | with_reducible refine WC.seq ?_ | with_reducible refine WC.region ?_ | with_reducible refine WC.block ?_ | with_reducible refine QX.bnorm ?_ | with_reducible refine QX.bret ?_ | with_reducible refine QX.ret ?_ | with_reducible refine QX.exit ?_ | with_reducible refine QX.bsame ?_ | with_reducible refine QX.bother rfl ?_
        | with_reducible refine WO.nil ?_ | with_reducible refine WC.skip ?_ | with_reducible refine WC.ret ?_ | with_reducible refine WC.exit ?_ | ((with_reducible refine WC.id ?_); first | refine WC.condT rfl ?_ | refine WC.condF rfl ?_)
        | (refine WC.quietG hg ?_; clear hg) | ((with_reducible refine WQ.nilG ?_); intro w hg)
        | ((with_reducible refine WQ.cid ?_); first | refine WQ.xG ?_ | refine WQ.pure ?_)
        | ((with_reducible refine WQ.gid ?_); first | refine WQ.on rfl ?_ | refine WQ.offN rfl rfl ?_)
        | ((with_reducible refine WO.cid ?_); first
          | refine WO.x ?_ | (refine op_alloc hg ?_; clear hg; intro b w hg; refine WO.fr ?_) | (refine op_boxA hg ?_; clear hg; intro b w hg; refine WO.fr ?_) | (refine op_box1 hg ?_; clear hg; intro b w hg; refine WO.fr ?_)
          | (refine op_store hg ?_; clear hg; intro w hg; refine WO.fr ?_; try simp only [List.set_cons_succ, List.set_cons_zero] at hg)
          | (refine op_storeA hg ?_; clear hg; intro w hg; refine WO.fr ?_; try simp only [over, List.take_zero, List.take_succ_cons, List.drop_zero, List.drop_succ_cons, List.nil_append, List.cons_append, List.append_nil, List.length_cons, List.length_nil, Nat.zero_add, Nat.reduceAdd, splice, cellsL] at hg)
          | (refine op_pure hg ?_; clear hg; intro w hg; refine WO.fr ?_) | (refine op_pureB hg ?_; clear hg; intro w hg c hc; cases c <;> refine WO.fr ?_))
        | ((with_reducible refine WO.gid ?_); first | refine WO.on rfl ?_ | refine WO.offN rfl rfl ?_))
      refine WC.loopS [6, 8, 9, 32, 33, 34, 35, 36, 37, 38, 39, 40, 41, 42, 43, 44, 45, 46, 47, 48, 49, 50, 51, 52, 53, 54, 55, 56, 57, 58, 59, 60, 61] (fun xs d w => ∃ i : Nat, d = [] ∧ (gt xs 3) = .int .i64 i ∧ i ≤ os.length ∧ Goes w0 [] [f1] w) (fun xs _ _ => os.length - (intOf (gt xs 3)).toNat) ?_ ?_
      · exact ⟨0, rfl, rfl, Nat.zero_le _, hg⟩
      clear hg
      intro xs d w hlen hI K hK
      replace hlen := len_cons hlen
      obtain ⟨x6, xs, rfl, hlen⟩ := hlen
      replace hlen := len_cons hlen
      obtain ⟨x8, xs, rfl, hlen⟩ := hlen
      replace hlen := len_cons hlen
      obtain ⟨x9, xs, rfl, hlen⟩ := hlen
      replace hlen := len_cons hlen
      obtain ⟨x32, xs, rfl, hlen⟩ := hlen
      replace hlen := len_cons hlen
      obtain ⟨x33, xs, rfl, hlen⟩ := hlen
      replace hlen := len_cons hlen
      obtain ⟨x34, xs, rfl, hlen⟩ := hlen
      replace hlen := len_cons hlen
      obtain ⟨x35, xs, rfl, hlen⟩ := hlen
      replace hlen := len_cons hlen
      obtain ⟨x36, xs, rfl, hlen⟩ := hlen
      replace hlen := len_cons hlen
      obtain ⟨x37, xs, rfl, hlen⟩ := hlen
      replace hlen := len_cons hlen
      obtain ⟨x38, xs, rfl, hlen⟩ := hlen
      replace hlen := len_cons hlen
      obtain ⟨x39, xs, rfl, hlen⟩ := hlen
      replace hlen := len_cons hlen
      obtain ⟨x40, xs, rfl, hlen⟩ := hlen
      replace hlen := len_cons hlen
      obtain ⟨x41, xs, rfl, hlen⟩ := hlen
      replace hlen := len_cons hlen
      obtain ⟨x42, xs, rfl, hlen⟩ := hlen
      replace hlen := len_cons hlen
      obtain ⟨x43, xs, rfl, hlen⟩ := hlen
      replace hlen := len_cons hlen
      obtain ⟨x44, xs, rfl, hlen⟩ := hlen
      replace hlen := len_cons hlen
      obtain ⟨x45, xs, rfl, hlen⟩ := hlen
      replace hlen := len_cons hlen
      obtain ⟨x46, xs, rfl, hlen⟩ := hlen
      replace hlen := len_cons hlen
      obtain ⟨x47, xs, rfl, hlen⟩ := hlen
      replace hlen := len_cons hlen
      obtain ⟨x48, xs, rfl, hlen⟩ := hlen
      replace hlen := len_cons hlen
      obtain ⟨x49, xs, rfl, hlen⟩ := hlen
      replace hlen := len_cons hlen
      obtain ⟨x50, xs, rfl, hlen⟩ := hlen
      replace hlen := len_cons hlen
      obtain ⟨x51, xs, rfl, hlen⟩ := hlen
      replace hlen := len_cons hlen
      obtain ⟨x52, xs, rfl, hlen⟩ := hlen
      replace hlen := len_cons hlen
      obtain ⟨x53, xs, rfl, hlen⟩ := hlen
      replace hlen := len_cons hlen
      obtain ⟨x54, xs, rfl, hlen⟩ := hlen
      replace hlen := len_cons hlen
      obtain ⟨x55, xs, rfl, hlen⟩ := hlen
      replace hlen := len_cons hlen
      obtain ⟨x56, xs, rfl, hlen⟩ := hlen
      replace hlen := len_cons hlen
      obtain ⟨x57, xs, rfl, hlen⟩ := hlen
      replace hlen := len_cons hlen
      obtain ⟨x58, xs, rfl, hlen⟩ := hlen
      replace hlen := len_cons hlen
      obtain ⟨x59, xs, rfl, hlen⟩ := hlen
      replace hlen := len_cons hlen
      obtain ⟨x60, xs, rfl, hlen⟩ := hlen
      replace hlen := len_cons hlen
      obtain ⟨x61, xs, rfl, hlen⟩ := hlen
      replace hlen := len_nil hlen
      subst hlen
      refine WC.frame (by simp only [setAll, List.set_cons_succ, List.set_cons_zero]; exact rfl) ?_
      simp only [gt] at hI
      obtain ⟨i, rfl, rfl, hi, hg⟩ := hI
      by_cases hlt : i < os.length
      · obtain ⟨g, cur, rfl, rfl, _, _, _, htk⟩ := hO.inv (by omega)
        have ki := ints_get htk i hlt
        have hK1 := hK
        repeat' (first
          | with_reducible refine QX.next ?_ | with_reducible refine WC.seq ?_ | with_reducible refine WC.region ?_ | with_reducible refine WC.block ?_ | with_reducible refine QX.bnorm ?_ | with_reducible refine QX.bret ?_ | with_reducible refine QX.ret ?_ | with_reducible refine QX.exit ?_ | with_reducible refine QX.bsame ?_ | with_reducible refine QX.bother rfl ?_
          | with_reducible refine WO.nil ?_ | with_reducible refine WC.skip ?_ | with_reducible refine WC.ret ?_ | with_reducible refine WC.exit ?_ | ((with_reducible refine WC.id ?_); first | refine WC.condT rfl ?_ | refine WC.condF rfl ?_)
          | (refine WC.quietG hg ?_; clear hg) | ((with_reducible refine WQ.nilG ?_); intro w hg)
          | ((with_reducible refine WQ.cid ?_); first | refine WQ.xG ?_ | refine WQ.pure ?_)
          | ((with_reducible refine WQ.gid ?_); first | refine WQ.on rfl ?_ | refine WQ.offN rfl rfl ?_)
          | ((with_reducible refine WO.cid ?_); first
            | refine WO.x ?_ | (refine op_alloc hg ?_; clear hg; intro b w hg; refine WO.fr ?_) | (refine op_boxA hg ?_; clear hg; intro b w hg; refine WO.fr ?_) | (refine op_box1 hg ?_; clear hg; intro b w hg; refine WO.fr ?_)
            | (refine op_store hg ?_; clear hg; intro w hg; refine WO.fr ?_; try simp only [List.set_cons_succ, List.set_cons_zero] at hg)
            | (refine op_storeA hg ?_; clear hg; intro w hg; refine WO.fr ?_; try simp only [over, List.take_zero, List.take_succ_cons, List.drop_zero, List.drop_succ_cons, List.nil_append, List.cons_append, List.append_nil, List.length_cons, List.length_nil, Nat.zero_add, Nat.reduceAdd, splice, cellsL] at hg)
            | (refine op_pure hg ?_; clear hg; intro w hg; refine WO.fr ?_) | (refine op_pureB hg ?_; clear hg; intro w hg c hc; cases c <;> refine WO.fr ?_))
          | ((with_reducible refine WO.gid ?_); first | refine WO.on rfl ?_ | refine WO.offN rfl rfl ?_))
        refine WC.loopS [6, 9, 36, 37, 38, 39, 40, 41, 42, 43, 44, 45, 46, 47, 48, 49, 50, 51, 52, 53, 54, 55, 56, 57, 58, 59, 60] (fun xs d w => ∃ j : Nat, d = [] ∧ (gt xs 2) = .int .i64 j ∧ j ≤ i ∧ Goes w0 [] [[(g, .cells cur.toArray 3 (0, 0))]] w) (fun xs _ _ => i - (intOf (gt xs 2)).toNat) ?_ ?_
        · exact ⟨0, rfl, rfl, Nat.zero_le _, hg⟩
        clear hg
        intro xs d w hlen hI K hK
        replace hlen := len_cons hlen
        obtain ⟨x6, xs, rfl, hlen⟩ := hlen
        replace hlen := len_cons hlen
        obtain ⟨x9, xs, rfl, hlen⟩ := hlen
        replace hlen := len_cons hlen
        obtain ⟨x36, xs, rfl, hlen⟩ := hlen
        replace hlen := len_cons hlen
        obtain ⟨x37, xs, rfl, hlen⟩ := hlen
        replace hlen := len_cons hlen
        obtain ⟨x38, xs, rfl, hlen⟩ := hlen
        replace hlen := len_cons hlen
        obtain ⟨x39, xs, rfl, hlen⟩ := hlen
        replace hlen := len_cons hlen
        obtain ⟨x40, xs, rfl, hlen⟩ := hlen
        replace hlen := len_cons hlen
        obtain ⟨x41, xs, rfl, hlen⟩ := hlen
        replace hlen := len_cons hlen
        obtain ⟨x42, xs, rfl, hlen⟩ := hlen
        replace hlen := len_cons hlen
        obtain ⟨x43, xs, rfl, hlen⟩ := hlen
        replace hlen := len_cons hlen
        obtain ⟨x44, xs, rfl, hlen⟩ := hlen
        replace hlen := len_cons hlen
        obtain ⟨x45, xs, rfl, hlen⟩ := hlen
        replace hlen := len_cons hlen
        obtain ⟨x46, xs, rfl, hlen⟩ := hlen
        replace hlen := len_cons hlen
        obtain ⟨x47, xs, rfl, hlen⟩ := hlen
        replace hlen := len_cons hlen
        obtain ⟨x48, xs, rfl, hlen⟩ := hlen
        replace hlen := len_cons hlen
        obtain ⟨x49, xs, rfl, hlen⟩ := hlen
        replace hlen := len_cons hlen
        obtain ⟨x50, xs, rfl, hlen⟩ := hlen
        replace hlen := len_cons hlen
        obtain ⟨x51, xs, rfl, hlen⟩ := hlen
        replace hlen := len_cons hlen
        obtain ⟨x52, xs, rfl, hlen⟩ := hlen
        replace hlen := len_cons hlen
        obtain ⟨x53, xs, rfl, hlen⟩ := hlen
        replace hlen := len_cons hlen
        obtain ⟨x54, xs, rfl, hlen⟩ := hlen
        replace hlen := len_cons hlen
        obtain ⟨x55, xs, rfl, hlen⟩ := hlen
        replace hlen := len_cons hlen
        obtain ⟨x56, xs, rfl, hlen⟩ := hlen
        replace hlen := len_cons hlen
        obtain ⟨x57, xs, rfl, hlen⟩ := hlen
        replace hlen := len_cons hlen
        obtain ⟨x58, xs, rfl, hlen⟩ := hlen
        replace hlen := len_cons hlen
        obtain ⟨x59, xs, rfl, hlen⟩ := hlen
        replace hlen := len_cons hlen
        obtain ⟨x60, xs, rfl, hlen⟩ := hlen
        replace hlen := len_nil hlen
        subst hlen
        refine WC.frame (by simp only [setAll, List.set_cons_succ, List.set_cons_zero]; exact rfl) ?_
        simp only [gt] at hI
        obtain ⟨j, rfl, rfl, hj, hg⟩ := hI
        by_cases hlj : j < i
        · have kj := ints_get htk j (by omega)
          obtain ⟨hne, hbf⟩ := hT j i (by omega) hlt hlj
          have p2 : ∀ {w Fs}, Goes w0 [] Fs w → Calls Try.prog 28 #[.slice a its.length cap, .int .i64 os[i], .int .i64 os[j]] w (fun e w' => e = .returned (.bool false) ∧ Goes w [] [] w') := fun h => hbf ▸ Before_spec _ a cap its os[i] os[j] (hS.goes h) (by omega)
          repeat' (first
            | with_reducible refine QX.next ?_ | with_reducible refine WC.seq ?_ | with_reducible refine WC.region ?_ | with_reducible refine WC.block ?_ | with_reducible refine QX.bnorm ?_ | with_reducible refine QX.bret ?_ | with_reducible refine QX.ret ?_ | with_reducible refine QX.exit ?_ | with_reducible refine QX.bsame ?_ | with_reducible refine QX.bother rfl ?_
            | with_reducible refine WO.nil ?_ | with_reducible refine WC.skip ?_ | with_reducible refine WC.ret ?_ | with_reducible refine WC.exit ?_ | ((with_reducible refine WC.id ?_); first | refine WC.condT rfl ?_ | refine WC.condF rfl ?_)
            | (refine WC.quietG hg ?_; clear hg) | ((with_reducible refine WQ.nilG ?_); intro w hg)
            | ((with_reducible refine WQ.cid ?_); first | refine WQ.xG ?_ | refine WQ.pure ?_)
            | ((with_reducible refine WQ.gid ?_); first | refine WQ.on rfl ?_ | refine WQ.offN rfl rfl ?_)
            | ((with_reducible refine WO.cid ?_); first
              | refine WO.x ?_ | (refine op_alloc hg ?_; clear hg; intro b w hg; refine WO.fr ?_) | (refine op_boxA hg ?_; clear hg; intro b w hg; refine WO.fr ?_) | (refine op_box1 hg ?_; clear hg; intro b w hg; refine WO.fr ?_)
              | (refine op_store hg ?_; clear hg; intro w hg; refine WO.fr ?_; try simp only [List.set_cons_succ, List.set_cons_zero] at hg)
              | (refine op_storeA hg ?_; clear hg; intro w hg; refine WO.fr ?_; try simp only [over, List.take_zero, List.take_succ_cons, List.drop_zero, List.drop_succ_cons, List.nil_append, List.cons_append, List.append_nil, List.length_cons, List.length_nil, Nat.zero_add, Nat.reduceAdd, splice, cellsL] at hg)
              | (refine op_pure hg ?_; clear hg; intro w hg; refine WO.fr ?_) | (refine op_pureB hg ?_; clear hg; intro w hg c hc; cases c <;> refine WO.fr ?_))
            | ((with_reducible refine WO.gid ?_); first | refine WO.on rfl ?_ | refine WO.offN rfl rfl ?_))
          with_reducible refine QX.norm ?_
          refine hK _ _ _ ?_ ?_ ?_
          · simp only [setAll, List.map_cons, List.map_nil, gt, List.set_cons_succ, List.set_cons_zero]
          all_goals simp only [List.map_cons, List.map_nil, gt, intOf]
          · exact ⟨j + 1, trivial, rfl, hlj, hg⟩
          · omega
        · repeat' (first
            | with_reducible refine QX.next ?_ | with_reducible refine WC.seq ?_ | with_reducible refine WC.region ?_ | with_reducible refine WC.block ?_ | with_reducible refine QX.bnorm ?_ | with_reducible refine QX.bret ?_ | with_reducible refine QX.ret ?_ | with_reducible refine QX.exit ?_ | with_reducible refine QX.bsame ?_ | with_reducible refine QX.bother rfl ?_
            | with_reducible refine WO.nil ?_ | with_reducible refine WC.skip ?_ | with_reducible refine WC.ret ?_ | with_reducible refine WC.exit ?_ | ((with_reducible refine WC.id ?_); first | refine WC.condT rfl ?_ | refine WC.condF rfl ?_)
            | (refine WC.quietG hg ?_; clear hg) | ((with_reducible refine WQ.nilG ?_); intro w hg)
            | ((with_reducible refine WQ.cid ?_); first | refine WQ.xG ?_ | refine WQ.pure ?_)
            | ((with_reducible refine WQ.gid ?_); first | refine WQ.on rfl ?_ | refine WQ.offN rfl rfl ?_)
            | ((with_reducible refine WO.cid ?_); first
              | refine WO.x ?_ | (refine op_alloc hg ?_; clear hg; intro b w hg; refine WO.fr ?_) | (refine op_boxA hg ?_; clear hg; intro b w hg; refine WO.fr ?_) | (refine op_box1 hg ?_; clear hg; intro b w hg; refine WO.fr ?_)
              | (refine op_store hg ?_; clear hg; intro w hg; refine WO.fr ?_; try simp only [List.set_cons_succ, List.set_cons_zero] at hg)
              | (refine op_storeA hg ?_; clear hg; intro w hg; refine WO.fr ?_; try simp only [over, List.take_zero, List.take_succ_cons, List.drop_zero, List.drop_succ_cons, List.nil_append, List.cons_append, List.append_nil, List.length_cons, List.length_nil, Nat.zero_add, Nat.reduceAdd, splice, cellsL] at hg)
              | (refine op_pure hg ?_; clear hg; intro w hg; refine WO.fr ?_) | (refine op_pureB hg ?_; clear hg; intro w hg c hc; cases c <;> refine WO.fr ?_))
            | ((with_reducible refine WO.gid ?_); first | refine WO.on rfl ?_ | refine WO.offN rfl rfl ?_))
          replace hK := hK1
          with_reducible refine QX.norm ?_
          refine hK _ _ _ ?_ ?_ ?_
          · simp only [setAll, List.map_cons, List.map_nil, gt, List.set_cons_succ, List.set_cons_zero]
          all_goals simp only [List.map_cons, List.map_nil, gt, intOf]
          · exact ⟨i + 1, trivial, rfl, hlt, hg⟩
          · omega
      · repeat' (first
          | with_reducible refine QX.next ?_ | with_reducible refine WC.seq ?_ | with_reducible refine WC.region ?_ | with_reducible refine WC.block ?_ | with_reducible refine QX.bnorm ?_ | with_reducible refine QX.bret ?_ | with_reducible refine QX.ret ?_ | with_reducible refine QX.exit ?_ | with_reducible refine QX.bsame ?_ | with_reducible refine QX.bother rfl ?_
          | with_reducible refine WO.nil ?_ | with_reducible refine WC.skip ?_ | with_reducible refine WC.ret ?_ | with_reducible refine WC.exit ?_ | ((with_reducible refine WC.id ?_); first | refine WC.condT rfl ?_ | refine WC.condF rfl ?_)
          | (refine WC.quietG hg ?_; clear hg) | ((with_reducible refine WQ.nilG ?_); intro w hg)
          | ((with_reducible refine WQ.cid ?_); first | refine WQ.xG ?_ | refine WQ.pure ?_)
          | ((with_reducible refine WQ.gid ?_); first | refine WQ.on rfl ?_ | refine WQ.offN rfl rfl ?_)
          | ((with_reducible refine WO.cid ?_); first
            | refine WO.x ?_ | (refine op_alloc hg ?_; clear hg; intro b w hg; refine WO.fr ?_) | (refine op_boxA hg ?_; clear hg; intro b w hg; refine WO.fr ?_) | (refine op_box1 hg ?_; clear hg; intro b w hg; refine WO.fr ?_)
            | (refine op_store hg ?_; clear hg; intro w hg; refine WO.fr ?_; try simp only [List.set_cons_succ, List.set_cons_zero] at hg)
            | (refine op_storeA hg ?_; clear hg; intro w hg; refine WO.fr ?_; try simp only [over, List.take_zero, List.take_succ_cons, List.drop_zero, List.drop_succ_cons, List.nil_append, List.cons_append, List.append_nil, List.length_cons, List.length_nil, Nat.zero_add, Nat.reduceAdd, splice, cellsL] at hg)
            | (refine op_pure hg ?_; clear hg; intro w hg; refine WO.fr ?_) | (refine op_pureB hg ?_; clear hg; intro w hg c hc; cases c <;> refine WO.fr ?_))
          | ((with_reducible refine WO.gid ?_); first | refine WO.on rfl ?_ | refine WO.offN rfl rfl ?_))
        refine WC.loopS [6, 11, 64, 65, 66, 67, 68, 69, 70, 71, 72, 73, 74, 75, 76, 77, 78, 79, 80, 81, 82, 83, 84] (fun xs d w => ∃ i : Nat, d = [] ∧ (gt xs 2) = .int .i64 i ∧ i ≤ its.length ∧ Goes w0 [] [] w) (fun xs _ _ => its.length - (intOf (gt xs 2)).toNat) ?_ ?_
        · exact ⟨0, rfl, rfl, Nat.zero_le _, hg.drop⟩
        clear hg
        intro xs d w hlen hI K hK
        replace hlen := len_cons hlen
        obtain ⟨x6, xs, rfl, hlen⟩ := hlen
        replace hlen := len_cons hlen
        obtain ⟨x11, xs, rfl, hlen⟩ := hlen
        replace hlen := len_cons hlen
        obtain ⟨x64, xs, rfl, hlen⟩ := hlen
        replace hlen := len_cons hlen
        obtain ⟨x65, xs, rfl, hlen⟩ := hlen
        replace hlen := len_cons hlen
        obtain ⟨x66, xs, rfl, hlen⟩ := hlen
        replace hlen := len_cons hlen
        obtain ⟨x67, xs, rfl, hlen⟩ := hlen
        replace hlen := len_cons hlen
        obtain ⟨x68, xs, rfl, hlen⟩ := hlen
        replace hlen := len_cons hlen
        obtain ⟨x69, xs, rfl, hlen⟩ := hlen
        replace hlen := len_cons hlen
        obtain ⟨x70, xs, rfl, hlen⟩ := hlen
        replace hlen := len_cons hlen
        obtain ⟨x71, xs, rfl, hlen⟩ := hlen
        replace hlen := len_cons hlen
        obtain ⟨x72, xs, rfl, hlen⟩ := hlen
        replace hlen := len_cons hlen
        obtain ⟨x73, xs, rfl, hlen⟩ := hlen
        replace hlen := len_cons hlen
        obtain ⟨x74, xs, rfl, hlen⟩ := hlen
        replace hlen := len_cons hlen
        obtain ⟨x75, xs, rfl, hlen⟩ := hlen
        replace hlen := len_cons hlen
        obtain ⟨x76, xs, rfl, hlen⟩ := hlen
        replace hlen := len_cons hlen
        obtain ⟨x77, xs, rfl, hlen⟩ := hlen
        replace hlen := len_cons hlen
        obtain ⟨x78, xs, rfl, hlen⟩ := hlen
        replace hlen := len_cons hlen
        obtain ⟨x79, xs, rfl, hlen⟩ := hlen
        replace hlen := len_cons hlen
        obtain ⟨x80, xs, rfl, hlen⟩ := hlen
        replace hlen := len_cons hlen
        obtain ⟨x81, xs, rfl, hlen⟩ := hlen
        replace hlen := len_cons hlen
        obtain ⟨x82, xs, rfl, hlen⟩ := hlen
        replace hlen := len_cons hlen
        obtain ⟨x83, xs, rfl, hlen⟩ := hlen
        replace hlen := len_cons hlen
        obtain ⟨x84, xs, rfl, hlen⟩ := hlen
        replace hlen := len_nil hlen
        subst hlen
        refine WC.frame (by simp only [setAll, List.set_cons_succ, List.set_cons_zero]; exact rfl) ?_
        simp only [gt] at hI
        obtain ⟨i, rfl, rfl, hi, hg⟩ := hI
        by_cases hlt : i < its.length
        rotate_left
        · repeat' (first
            | with_reducible refine QX.next ?_ | with_reducible refine WC.seq ?_ | with_reducible refine WC.region ?_ | with_reducible refine WC.block ?_ | with_reducible refine QX.bnorm ?_ | with_reducible refine QX.bret ?_ | with_reducible refine QX.ret ?_ | with_reducible refine QX.exit ?_ | with_reducible refine QX.bsame ?_ | with_reducible refine QX.bother rfl ?_
            | with_reducible refine WO.nil ?_ | with_reducible refine WC.skip ?_ | with_reducible refine WC.ret ?_ | with_reducible refine WC.exit ?_ | ((with_reducible refine WC.id ?_); first | refine WC.condT rfl ?_ | refine WC.condF rfl ?_)
            | (refine WC.quietG hg ?_; clear hg) | ((with_reducible refine WQ.nilG ?_); intro w hg)
            | ((with_reducible refine WQ.cid ?_); first | refine WQ.xG ?_ | refine WQ.pure ?_)
            | ((with_reducible refine WQ.gid ?_); first | refine WQ.on rfl ?_ | refine WQ.offN rfl rfl ?_)
            | ((with_reducible refine WO.cid ?_); first
              | refine WO.x ?_ | (refine op_alloc hg ?_; clear hg; intro b w hg; refine WO.fr ?_) | (refine op_boxA hg ?_; clear hg; intro b w hg; refine WO.fr ?_) | (refine op_box1 hg ?_; clear hg; intro b w hg; refine WO.fr ?_)
              | (refine op_store hg ?_; clear hg; intro w hg; refine WO.fr ?_; try simp only [List.set_cons_succ, List.set_cons_zero] at hg)
              | (refine op_storeA hg ?_; clear hg; intro w hg; refine WO.fr ?_; try simp only [over, List.take_zero, List.take_succ_cons, List.drop_zero, List.drop_succ_cons, List.nil_append, List.cons_append, List.append_nil, List.length_cons, List.length_nil, Nat.zero_add, Nat.reduceAdd, splice, cellsL] at hg)
              | (refine op_pure hg ?_; clear hg; intro w hg; refine WO.fr ?_) | (refine op_pureB hg ?_; clear hg; intro w hg c hc; cases c <;> refine WO.fr ?_))
            | ((with_reducible refine WO.gid ?_); first | refine WO.on rfl ?_ | refine WO.offN rfl rfl ?_))
          exact ret1 rfl ⟨rfl, hg.drop⟩
        obtain ⟨bs, ks, rfl, _, hrow⟩ := hS.at (i := i) (r := its[i].enc) (by simp [hlt])
        have r1 : ∀ {w Fs}, Goes w0 [] Fs w → Cells w ⟨bs, ks + i * 14, none⟩ [.int .i64 its[i].kind, .int .i64 its[i].id, .int .i64 its[i].client, .int .i64 its[i].op.kind, .int .i64 its[i].op.n, .string its[i].op.data, .int .i64 its[i].res.e, .int .i64 its[i].res.n, .int .i64 its[i].res.k1, .int .i64 its[i].res.k2, .int .i64 its[i].res.k3, .int .i64 its[i].res.k4, .int .i64 its[i].res.k5, .int .i64 its[i].res.k6] := fun h => h.cellsOld hrow (by simp)
        clear hrow
        by_cases hk : its[i].kind = 3
        rotate_left
        · repeat' (first
            | with_reducible refine QX.next ?_ | with_reducible refine WC.seq ?_ | with_reducible refine WC.region ?_ | with_reducible refine WC.block ?_ | with_reducible refine QX.bnorm ?_ | with_reducible refine QX.bret ?_ | with_reducible refine QX.ret ?_ | with_reducible refine QX.exit ?_ | with_reducible refine QX.bsame ?_ | with_reducible refine QX.bother rfl ?_
            | with_reducible refine WO.nil ?_ | with_reducible refine WC.skip ?_ | with_reducible refine WC.ret ?_ | with_reducible refine WC.exit ?_ | ((with_reducible refine WC.id ?_); first | refine WC.condT rfl ?_ | refine WC.condF rfl ?_)
            | (refine WC.quietG hg ?_; clear hg) | ((with_reducible refine WQ.nilG ?_); intro w hg)
            | ((with_reducible refine WQ.cid ?_); first | refine WQ.xG ?_ | refine WQ.pure ?_)
            | ((with_reducible refine WQ.gid ?_); first | refine WQ.on rfl ?_ | refine WQ.offN rfl rfl ?_)
            | ((with_reducible refine WO.cid ?_); first
              | refine WO.x ?_ | (refine op_alloc hg ?_; clear hg; intro b w hg; refine WO.fr ?_) | (refine op_boxA hg ?_; clear hg; intro b w hg; refine WO.fr ?_) | (refine op_box1 hg ?_; clear hg; intro b w hg; refine WO.fr ?_)
              | (refine op_store hg ?_; clear hg; intro w hg; refine WO.fr ?_; try simp only [List.set_cons_succ, List.set_cons_zero] at hg)
              | (refine op_storeA hg ?_; clear hg; intro w hg; refine WO.fr ?_; try simp only [over, List.take_zero, List.take_succ_cons, List.drop_zero, List.drop_succ_cons, List.nil_append, List.cons_append, List.append_nil, List.length_cons, List.length_nil, Nat.zero_add, Nat.reduceAdd, splice, cellsL] at hg)
              | (refine op_pure hg ?_; clear hg; intro w hg; refine WO.fr ?_) | (refine op_pureB hg ?_; clear hg; intro w hg c hc; cases c <;> refine WO.fr ?_))
            | ((with_reducible refine WO.gid ?_); first | refine WO.on rfl ?_ | refine WO.offN rfl rfl ?_))
          with_reducible refine QX.norm ?_
          refine hK _ _ _ ?_ ?_ ?_
          · simp only [setAll, List.map_cons, List.map_nil, gt, List.set_cons_succ, List.set_cons_zero]
          all_goals simp only [List.map_cons, List.map_nil, gt, intOf]
          · exact ⟨i + 1, trivial, rfl, hlt, hg.drop⟩
          · omega
        have e1 : eqL [.int, .int, .int, .int, .int, .int, .int, .int] [.int .i64 its[i].res.e, .int .i64 its[i].res.n, .int .i64 its[i].res.k1, .int .i64 its[i].res.k2, .int .i64 its[i].res.k3, .int .i64 its[i].res.k4, .int .i64 its[i].res.k5, .int .i64 its[i].res.k6] [.int .i64 17, .int .i64 0, .int .i64 0, .int .i64 0, .int .i64 0, .int .i64 0, .int .i64 0, .int .i64 0] = some (decide (its[i].res = Res.busy)) := eqL_res its[i].res Res.busy
        by_cases hbz : its[i].res = Res.busy
        · rw [decide_eq_true hbz] at e1
          repeat' (first
            | with_reducible refine QX.next ?_ | with_reducible refine WC.seq ?_ | with_reducible refine WC.region ?_ | with_reducible refine WC.block ?_ | with_reducible refine QX.bnorm ?_ | with_reducible refine QX.bret ?_ | with_reducible refine QX.ret ?_ | with_reducible refine QX.exit ?_ | with_reducible refine QX.bsame ?_ | with_reducible refine QX.bother rfl ?_
            | with_reducible refine WO.nil ?_ | with_reducible refine WC.skip ?_ | with_reducible refine WC.ret ?_ | with_reducible refine WC.exit ?_ | ((with_reducible refine WC.id ?_); first | refine WC.condT rfl ?_ | refine WC.condF rfl ?_)
            | (refine WC.quietG hg ?_; clear hg) | ((with_reducible refine WQ.nilG ?_); intro w hg)
            | ((with_reducible refine WQ.cid ?_); first | refine WQ.xG ?_ | refine WQ.pure ?_)
            | ((with_reducible refine WQ.gid ?_); first | refine WQ.on rfl ?_ | refine WQ.offN rfl rfl ?_)
            | ((with_reducible refine WO.cid ?_); first
              | refine WO.x ?_ | (refine op_alloc hg ?_; clear hg; intro b w hg; refine WO.fr ?_) | (refine op_boxA hg ?_; clear hg; intro b w hg; refine WO.fr ?_) | (refine op_box1 hg ?_; clear hg; intro b w hg; refine WO.fr ?_)
              | (refine op_store hg ?_; clear hg; intro w hg; refine WO.fr ?_; try simp only [List.set_cons_succ, List.set_cons_zero] at hg)
              | (refine op_storeA hg ?_; clear hg; intro w hg; refine WO.fr ?_; try simp only [over, List.take_zero, List.take_succ_cons, List.drop_zero, List.drop_succ_cons, List.nil_append, List.cons_append, List.append_nil, List.length_cons, List.length_nil, Nat.zero_add, Nat.reduceAdd, splice, cellsL] at hg)
              | (refine op_pure hg ?_; clear hg; intro w hg; refine WO.fr ?_) | (refine op_pureB hg ?_; clear hg; intro w hg c hc; cases c <;> refine WO.fr ?_))
            | ((with_reducible refine WO.gid ?_); first | refine WO.on rfl ?_ | refine WO.offN rfl rfl ?_))
          with_reducible refine QX.norm ?_
          refine hK _ _ _ ?_ ?_ ?_
          · simp only [setAll, List.map_cons, List.map_nil, gt, List.set_cons_succ, List.set_cons_zero]
          all_goals simp only [List.map_cons, List.map_nil, gt, intOf]
          · exact ⟨i + 1, trivial, rfl, hlt, hg.drop⟩
          · omega
        · rw [decide_eq_false hbz] at e1
          have hpos := hT2 i hlt hk hbz
          have p2 : ∀ {w Fs}, Goes w0 [] Fs w → Calls Try.prog 30 #[.slice (some ⟨bs, ks, none⟩) its.length cap, .int .i64 2, .int .i64 its[i].id, .int .i64 0] w _ := fun h => Has0_spec rfl (hS.goes h)
          generalize hasV its 2 its[i].id 0 = hv at hpos p2
          repeat' (first
            | with_reducible refine QX.next ?_ | with_reducible refine WC.seq ?_ | with_reducible refine WC.region ?_ | with_reducible refine WC.block ?_ | with_reducible refine QX.bnorm ?_ | with_reducible refine QX.bret ?_ | with_reducible refine QX.ret ?_ | with_reducible refine QX.exit ?_ | with_reducible refine QX.bsame ?_ | with_reducible refine QX.bother rfl ?_
            | with_reducible refine WO.nil ?_ | with_reducible refine WC.skip ?_ | with_reducible refine WC.ret ?_ | with_reducible refine WC.exit ?_ | ((with_reducible refine WC.id ?_); first | refine WC.condT rfl ?_ | refine WC.condF rfl ?_)
            | (refine WC.quietG hg ?_; clear hg) | ((with_reducible refine WQ.nilG ?_); intro w hg)
            | ((with_reducible refine WQ.cid ?_); first | refine WQ.xG ?_ | refine WQ.pure ?_)
            | ((with_reducible refine WQ.gid ?_); first | refine WQ.on rfl ?_ | refine WQ.offN rfl rfl ?_)
            | ((with_reducible refine WO.cid ?_); first
              | refine WO.x ?_ | (refine op_alloc hg ?_; clear hg; intro b w hg; refine WO.fr ?_) | (refine op_boxA hg ?_; clear hg; intro b w hg; refine WO.fr ?_) | (refine op_box1 hg ?_; clear hg; intro b w hg; refine WO.fr ?_)
              | (refine op_store hg ?_; clear hg; intro w hg; refine WO.fr ?_; try simp only [List.set_cons_succ, List.set_cons_zero] at hg)
              | (refine op_storeA hg ?_; clear hg; intro w hg; refine WO.fr ?_; try simp only [over, List.take_zero, List.take_succ_cons, List.drop_zero, List.drop_succ_cons, List.nil_append, List.cons_append, List.append_nil, List.length_cons, List.length_nil, Nat.zero_add, Nat.reduceAdd, splice, cellsL] at hg)
              | (refine op_pure hg ?_; clear hg; intro w hg; refine WO.fr ?_) | (refine op_pureB hg ?_; clear hg; intro w hg c hc; cases c <;> refine WO.fr ?_))
            | ((with_reducible refine WO.gid ?_); first | refine WO.on rfl ?_ | refine WO.offN rfl rfl ?_))
          with_reducible refine QX.norm ?_
          refine hK _ _ _ ?_ ?_ ?_
          · simp only [setAll, List.map_cons, List.map_nil, gt, List.set_cons_succ, List.set_cons_zero]
          all_goals simp only [List.map_cons, List.map_nil, gt, intOf]
          · exact ⟨i + 1, trivial, rfl, hlt, hg.drop⟩
          · omega
end Go.Proofs.Ytlomipcjkkjhiaa
