/- BoundJoins. -/
import Derived.Test.YtaamnccgciepbaaBndI
import Derived.Test.YtaamnccgciepbaaGrow
import Derived.Test.YtaamnccgciepbaaDrawn
namespace Go.Proofs.Ytaamnccgciepbaa
open Go Go.RowKit
set_option maxRecDepth 10000
set_option linter.unusedSimpArgs false
set_option linter.unusedVariables false

/-- How many rounds. -/
def cnt (c : Int) : List Item → Bool → Bool → Nat
  | [], _, _ => 0
  | x :: xs, s, o => if (s || decide (who x c = 0)) && (o || decide (who x c = 1)) then cnt c xs false false + 1 else cnt c xs (s || decide (who x c = 0)) (o || decide (who x c = 1))
/-- What has been seen behind a list. -/
def fin (c : Int) : List Item → Bool → Bool → Bool × Bool
  | [], s, o => (s, o)
  | x :: xs, s, o => if (s || decide (who x c = 0)) && (o || decide (who x c = 1)) then fin c xs false false else fin c xs (s || decide (who x c = 0)) (o || decide (who x c = 1))
theorem endsL_cnt (c : Int) : ∀ (l : List Item) (i : Nat) (s o : Bool), (endsL c l i s o).length = cnt c l s o
  | [], _, _, _ => rfl
  | x :: xs, i, s, o => by
    rw [endsL, cnt]
    split
    · rw [List.length_cons, endsL_cnt c xs]
    · rw [endsL_cnt c xs]
theorem cnt_append (c : Int) (b : List Item) : ∀ (a : List Item) (s o : Bool), cnt c (a ++ b) s o = cnt c a s o + cnt c b (fin c a s o).1 (fin c a s o).2
  | [], s, o => by simp [cnt, fin]
  | x :: xs, s, o => by
    rw [List.cons_append, cnt, cnt, fin]
    split
    · rw [cnt_append c b xs]; omega
    · rw [cnt_append c b xs]
theorem cnt_mono (c : Int) : ∀ (l : List Item) (s o s' o' : Bool), (s = true → s' = true) → (o = true → o' = true) → cnt c l s o ≤ cnt c l s' o' ∧ cnt c l s' o' ≤ cnt c l s o + 1
  | [], _, _, _, _, _, _ => by simp [cnt]
  | x :: xs, s, o, s', o', hs, ho => by
    have h1 := cnt_mono c xs (s || decide (who x c = 0)) (o || decide (who x c = 1)) (s' || decide (who x c = 0)) (o' || decide (who x c = 1)) (by simp; rintro (h | h); exact .inl (hs h); exact .inr h) (by simp; rintro (h | h); exact .inl (ho h); exact .inr h)
    have h2 := cnt_mono c xs false false (s || decide (who x c = 0)) (o || decide (who x c = 1)) (by simp) (by simp)
    rw [cnt, cnt]
    by_cases hp : ((s || decide (who x c = 0)) && (o || decide (who x c = 1))) = true
    · have hq : ((s' || decide (who x c = 0)) && (o' || decide (who x c = 1))) = true := by
        simp at hp ⊢
        exact ⟨hp.1.imp_left hs, hp.2.imp_left ho⟩
      rw [if_pos hp, if_pos hq]
      omega
    · rw [if_neg hp]
      split <;> omega
theorem cnt_joins (c : Int) (a b : List Item) : cnt c (a ++ b) false false = cnt c a false false + cnt c b false false ∨ cnt c (a ++ b) false false = cnt c a false false + cnt c b false false + 1 := by
  have := cnt_mono c b false false (fin c a false false).1 (fin c a false false).2 (by simp) (by simp)
  rw [cnt_append]
  omega
theorem cnt_less (c : Int) (l : List Item) (k : Nat) (hk : k < l.length) : cnt c (l.take k ++ l.drop (k + 1)) false false = cnt c l false false ∨ cnt c (l.take k ++ l.drop (k + 1)) false false + 1 = cnt c l false false := by
  have e : l = l.take k ++ l[k] :: l.drop (k + 1) := by simp
  generalize hA : l.take k = A
  generalize hx : l[k] = x at e
  generalize hB : l.drop (k + 1) = B at e ⊢
  rw [hA] at e
  rw [e, cnt_append, cnt_append]
  generalize fin c A false false = st
  rw [cnt]
  split
  · have := cnt_mono c B false false st.1 st.2 (by simp) (by simp)
    omega
  · have := cnt_mono c B st.1 st.2 (st.1 || decide (who x c = 0)) (st.2 || decide (who x c = 1)) (by simp; intro h; exact .inl h) (by simp; intro h; exact .inl h)
    omega

theorem items_src {w : World} {b : Option Addr} {c : Nat} {its : List Item} (h : Sl w b c 5 (its.map Item.enc)) : Src Try.prog 5 22 (.slice b its.length c) its.length (its.map Item.enc).flatten w := by
  have := h.src (P := Try.prog) (tx := 22) Und.out (by simp [Item.enc]) (by simp [Item.enc, Value.oneCell'])
  simpa using this
theorem items_own {w0 w : World} {M : List Nat} {Fs : List Frag} {a : Option Addr} {n cap : Nat} {its : List Item} {f : Frag} {e : TypeId} {xs : List Value} (h : Own e 5 a n cap xs f) (hg : Goes w0 M (f :: Fs) w) (hx : xs = (its.map Item.enc).flatten) (hn : n = its.length) (hl : n ≤ 140737488351232) : Sl w a cap 5 (its.map Item.enc) := by
  subst hx
  exact h.sl hg (by simp [Item.enc]) (by simp [hn]) hl

set_option maxHeartbeats 4000000 in
theorem BoundJoins_law (aa ab : Option Addr) (ca cb : Nat) (la lb : List Item) (c k : Int) (w0 : World) (hA : Sl w0 aa ca 5 (la.map Item.enc)) (hB : Sl w0 ab cb 5 (lb.map Item.enc)) :
    Calls Try.prog 4 #[.slice aa la.length ca, .slice ab lb.length cb, .agg [.int .i64 c, .int .i64 k].toArray] w0 fun e w' => e = .returned (.bool true) ∧ Goes w0 [] [] w' := by
  have hg := Goes.refl w0
  have hla := hA.lim
  have hlb := hB.lim
  simp only [List.length_map] at hla hlb
  have p1 := alive_spec
  by_cases ha : 100 < la.length
  · refine enter Try.func4 rfl (by simp only [Try.ntmps4, List.length_cons, List.length_nil, Nat.reduceAdd, Nat.reduceSub, List.replicate_succ, List.replicate_zero, List.cons_append, List.nil_append]; exact rfl) ?_
    repeat' (first
      | with_reducible refine QX.next ?_ | with_reducible refine WC.seq ?_ | with_reducible refine WC.region ?_ | with_reducible refine WC.block ?_ | with_reducible refine QX.bnorm ?_ | with_reducible refine QX.bret ?_ | with_reducible refine QX.ret ?_ | with_reducible refine QX.exit ?_ | with_reducible refine QX.bsame ?_ | with_reducible refine QX.bother rfl ?_
      | with_reducible refine WO.nil ?_ | with_reducible refine WC.skip ?_ | with_reducible refine WC.ret ?_ | with_reducible refine WC.exit ?_ | ((with_reducible refine WC.id ?_); first | refine WC.condT rfl ?_ | refine WC.condF rfl ?_)
      | (refine WC.quietG hg ?_; clear hg) | ((with_reducible refine WQ.nilG ?_); intro w hg)
      | ((with_reducible refine WQ.cid ?_); first | refine WQ.xG ?_ | refine WQ.pure ?_)
      | ((with_reducible refine WQ.gid ?_); first | refine WQ.on rfl ?_ | refine WQ.offN rfl rfl ?_)
      | ((with_reducible refine WO.cid ?_); first
        | refine WO.x ?_ | (refine op_alloc hg ?_; clear hg; intro b w hg; refine WO.fr ?_) | (refine op_boxA hg ?_; clear hg; intro b w hg; refine WO.fr ?_) | (refine op_box1 hg ?_; clear hg; intro b w hg; refine WO.fr ?_)
        | (refine op_store hg ?_; clear hg; intro w hg; refine WO.fr ?_; try simp only [List.set_cons_succ, List.set_cons_zero] at hg)
        | (refine op_storeA hg ?_; clear hg; intro w hg; refine WO.fr ?_; try simp only [over, List.take_zero, List.take_succ_cons, List.drop_zero, List.drop_succ_cons, List.nil_append, List.cons_append, List.append_nil, List.length_cons, List.length_nil, Nat.zero_add, Nat.reduceAdd, splice, cellsL] at hg)
        | (refine op_pure hg ?_; clear hg; intro w hg; refine WO.fr ?_) | (refine op_pureB hg ?_; clear hg; intro w hg c hc; cases c <;> refine WO.fr ?_))
      | ((with_reducible refine WO.gid ?_); first | refine WO.on rfl ?_ | refine WO.offN rfl rfl ?_))
    exact ret1 rfl ⟨rfl, hg.drop⟩
  by_cases hb : 100 < lb.length
  · refine enter Try.func4 rfl (by simp only [Try.ntmps4, List.length_cons, List.length_nil, Nat.reduceAdd, Nat.reduceSub, List.replicate_succ, List.replicate_zero, List.cons_append, List.nil_append]; exact rfl) ?_
    repeat' (first
      | with_reducible refine QX.next ?_ | with_reducible refine WC.seq ?_ | with_reducible refine WC.region ?_ | with_reducible refine WC.block ?_ | with_reducible refine QX.bnorm ?_ | with_reducible refine QX.bret ?_ | with_reducible refine QX.ret ?_ | with_reducible refine QX.exit ?_ | with_reducible refine QX.bsame ?_ | with_reducible refine QX.bother rfl ?_
      | with_reducible refine WO.nil ?_ | with_reducible refine WC.skip ?_ | with_reducible refine WC.ret ?_ | with_reducible refine WC.exit ?_ | ((with_reducible refine WC.id ?_); first | refine WC.condT rfl ?_ | refine WC.condF rfl ?_)
      | (refine WC.quietG hg ?_; clear hg) | ((with_reducible refine WQ.nilG ?_); intro w hg)
      | ((with_reducible refine WQ.cid ?_); first | refine WQ.xG ?_ | refine WQ.pure ?_)
      | ((with_reducible refine WQ.gid ?_); first | refine WQ.on rfl ?_ | refine WQ.offN rfl rfl ?_)
      | ((with_reducible refine WO.cid ?_); first
        | refine WO.x ?_ | (refine op_alloc hg ?_; clear hg; intro b w hg; refine WO.fr ?_) | (refine op_boxA hg ?_; clear hg; intro b w hg; refine WO.fr ?_) | (refine op_box1 hg ?_; clear hg; intro b w hg; refine WO.fr ?_)
        | (refine op_store hg ?_; clear hg; intro w hg; refine WO.fr ?_; try simp only [List.set_cons_succ, List.set_cons_zero] at hg)
        | (refine op_storeA hg ?_; clear hg; intro w hg; refine WO.fr ?_; try simp only [over, List.take_zero, List.take_succ_cons, List.drop_zero, List.drop_succ_cons, List.nil_append, List.cons_append, List.append_nil, List.length_cons, List.length_nil, Nat.zero_add, Nat.reduceAdd, splice, cellsL] at hg)
        | (refine op_pure hg ?_; clear hg; intro w hg; refine WO.fr ?_) | (refine op_pureB hg ?_; clear hg; intro w hg c hc; cases c <;> refine WO.fr ?_))
      | ((with_reducible refine WO.gid ?_); first | refine WO.on rfl ?_ | refine WO.offN rfl rfl ?_))
    exact ret1 rfl ⟨rfl, hg.drop⟩
  have p2 : ∀ {w Fs}, Goes w0 [] Fs w → Calls Try.prog 9 #[.slice aa la.length ca, .int .i64 c] w _ := fun h => Rounds_spec _ aa ca la c (hA.goes h)
  have p3 : ∀ {w Fs}, Goes w0 [] Fs w → Calls Try.prog 9 #[.slice ab lb.length cb, .int .i64 c] w _ := fun h => Rounds_spec _ ab cb lb c (hB.goes h)
  have hj := cnt_joins c la lb
  have hca : cnt c la false false ≤ la.length := endsL_cnt c la 0 false false ▸ endsL_le c la 0 false false
  have hcb : cnt c lb false false ≤ lb.length := endsL_cnt c lb 0 false false ▸ endsL_le c lb 0 false false
  simp only [endsL_cnt] at p2 p3
  refine enter Try.func4 rfl (by simp only [Try.ntmps4, List.length_cons, List.length_nil, Nat.reduceAdd, Nat.reduceSub, List.replicate_succ, List.replicate_zero, List.cons_append, List.nil_append]; exact rfl) ?_
  repeat' (first
    | with_reducible refine QX.next ?_ | with_reducible refine WC.seq ?_ | with_reducible refine WC.region ?_ | with_reducible refine WC.block ?_ | with_reducible refine QX.bnorm ?_ | with_reducible refine QX.bret ?_ | with_reducible refine QX.ret ?_ | with_reducible refine QX.exit ?_ | with_reducible refine QX.bsame ?_ | with_reducible refine QX.bother rfl ?_
    | with_reducible refine WO.nil ?_ | with_reducible refine WC.skip ?_ | with_reducible refine WC.ret ?_ | with_reducible refine WC.exit ?_ | ((with_reducible refine WC.id ?_); first | refine WC.condT rfl ?_ | refine WC.condF rfl ?_)
    | (refine WC.quietG hg ?_; clear hg) | ((with_reducible refine WQ.nilG ?_); intro w hg)
    | ((with_reducible refine WQ.cid ?_); first | refine WQ.xG ?_ | refine WQ.pure ?_)
    | ((with_reducible refine WQ.gid ?_); first | refine WQ.on rfl ?_ | refine WQ.offN rfl rfl ?_)
    | ((with_reducible refine WO.cid ?_); first
      | refine WO.x ?_ | (refine op_alloc hg ?_; clear hg; intro b w hg; refine WO.fr ?_) | (refine op_boxA hg ?_; clear hg; intro b w hg; refine WO.fr ?_) | (refine op_box1 hg ?_; clear hg; intro b w hg; refine WO.fr ?_)
      | (refine op_store hg ?_; clear hg; intro w hg; refine WO.fr ?_; try simp only [List.set_cons_succ, List.set_cons_zero] at hg)
      | (refine op_storeA hg ?_; clear hg; intro w hg; refine WO.fr ?_; try simp only [over, List.take_zero, List.take_succ_cons, List.drop_zero, List.drop_succ_cons, List.nil_append, List.cons_append, List.append_nil, List.length_cons, List.length_nil, Nat.zero_add, Nat.reduceAdd, splice, cellsL] at hg)
      | (refine op_pure hg ?_; clear hg; intro w hg; refine WO.fr ?_) | (refine op_pureB hg ?_; clear hg; intro w hg c hc; cases c <;> refine WO.fr ?_))
    | ((with_reducible refine WO.gid ?_); first | refine WO.on rfl ?_ | refine WO.offN rfl rfl ?_))
  refine op_buildNil hg ?_
  clear hg
  intro b1 w hO hg
  refine WO.fr ?_
  repeat' (first
    | with_reducible refine QX.next ?_ | with_reducible refine WC.seq ?_ | with_reducible refine WC.region ?_ | with_reducible refine WC.block ?_ | with_reducible refine QX.bnorm ?_ | with_reducible refine QX.bret ?_ | with_reducible refine QX.ret ?_ | with_reducible refine QX.exit ?_ | with_reducible refine QX.bsame ?_ | with_reducible refine QX.bother rfl ?_
    | with_reducible refine WO.nil ?_ | with_reducible refine WC.skip ?_ | with_reducible refine WC.ret ?_ | with_reducible refine WC.exit ?_ | ((with_reducible refine WC.id ?_); first | refine WC.condT rfl ?_ | refine WC.condF rfl ?_)
    | (refine WC.quietG hg ?_; clear hg) | ((with_reducible refine WQ.nilG ?_); intro w hg)
    | ((with_reducible refine WQ.cid ?_); first | refine WQ.xG ?_ | refine WQ.pure ?_)
    | ((with_reducible refine WQ.gid ?_); first | refine WQ.on rfl ?_ | refine WQ.offN rfl rfl ?_)
    | ((with_reducible refine WO.cid ?_); first
      | refine WO.x ?_ | (refine op_alloc hg ?_; clear hg; intro b w hg; refine WO.fr ?_) | (refine op_boxA hg ?_; clear hg; intro b w hg; refine WO.fr ?_) | (refine op_box1 hg ?_; clear hg; intro b w hg; refine WO.fr ?_)
      | (refine op_store hg ?_; clear hg; intro w hg; refine WO.fr ?_; try simp only [List.set_cons_succ, List.set_cons_zero] at hg)
      | (refine op_storeA hg ?_; clear hg; intro w hg; refine WO.fr ?_; try simp only [over, List.take_zero, List.take_succ_cons, List.drop_zero, List.drop_succ_cons, List.nil_append, List.cons_append, List.append_nil, List.length_cons, List.length_nil, Nat.zero_add, Nat.reduceAdd, splice, cellsL] at hg)
      | (refine op_pure hg ?_; clear hg; intro w hg; refine WO.fr ?_) | (refine op_pureB hg ?_; clear hg; intro w hg c hc; cases c <;> refine WO.fr ?_))
    | ((with_reducible refine WO.gid ?_); first | refine WO.on rfl ?_ | refine WO.offN rfl rfl ?_))
  refine op_append hg hO (items_src (hA.goes hg)) ?_
  clear hg hO
  intro a1 cap1 f1 w hO hg
  refine WO.fr ?_
  repeat' (first
    | with_reducible refine QX.next ?_ | with_reducible refine WC.seq ?_ | with_reducible refine WC.region ?_ | with_reducible refine WC.block ?_ | with_reducible refine QX.bnorm ?_ | with_reducible refine QX.bret ?_ | with_reducible refine QX.ret ?_ | with_reducible refine QX.exit ?_ | with_reducible refine QX.bsame ?_ | with_reducible refine QX.bother rfl ?_
    | with_reducible refine WO.nil ?_ | with_reducible refine WC.skip ?_ | with_reducible refine WC.ret ?_ | with_reducible refine WC.exit ?_ | ((with_reducible refine WC.id ?_); first | refine WC.condT rfl ?_ | refine WC.condF rfl ?_)
    | (refine WC.quietG hg ?_; clear hg) | ((with_reducible refine WQ.nilG ?_); intro w hg)
    | ((with_reducible refine WQ.cid ?_); first | refine WQ.xG ?_ | refine WQ.pure ?_)
    | ((with_reducible refine WQ.gid ?_); first | refine WQ.on rfl ?_ | refine WQ.offN rfl rfl ?_)
    | ((with_reducible refine WO.cid ?_); first
      | refine WO.x ?_ | (refine op_alloc hg ?_; clear hg; intro b w hg; refine WO.fr ?_) | (refine op_boxA hg ?_; clear hg; intro b w hg; refine WO.fr ?_) | (refine op_box1 hg ?_; clear hg; intro b w hg; refine WO.fr ?_)
      | (refine op_store hg ?_; clear hg; intro w hg; refine WO.fr ?_; try simp only [List.set_cons_succ, List.set_cons_zero] at hg)
      | (refine op_storeA hg ?_; clear hg; intro w hg; refine WO.fr ?_; try simp only [over, List.take_zero, List.take_succ_cons, List.drop_zero, List.drop_succ_cons, List.nil_append, List.cons_append, List.append_nil, List.length_cons, List.length_nil, Nat.zero_add, Nat.reduceAdd, splice, cellsL] at hg)
      | (refine op_pure hg ?_; clear hg; intro w hg; refine WO.fr ?_) | (refine op_pureB hg ?_; clear hg; intro w hg c hc; cases c <;> refine WO.fr ?_))
    | ((with_reducible refine WO.gid ?_); first | refine WO.on rfl ?_ | refine WO.offN rfl rfl ?_))
  refine op_append hg hO (items_src (hB.goes hg)) ?_
  clear hg hO
  intro a2 cap2 f2 w hO2 hg
  rw [show 0 + la.length + lb.length = (la ++ lb).length from by simp] at hO2 ⊢
  have hl2 : (la ++ lb).length = la.length + lb.length := by simp
  have e2 : [] ++ (la.map Item.enc).flatten ++ (lb.map Item.enc).flatten = ((la ++ lb).map Item.enc).flatten := by simp
  rw [e2] at hO2
  have p4 : ∀ {w Fs}, Goes w0 [] (f2 :: Fs) w → Calls Try.prog 9 #[.slice a2 (la ++ lb).length cap2, .int .i64 c] w _ := fun h => Rounds_spec _ a2 cap2 (la ++ lb) c (items_own hO2 h rfl rfl (by omega))
  simp only [endsL_cnt] at p4
  refine WO.fr ?_
  have hless := cnt_less c (la ++ lb)
  generalize cnt c la false false = A at *
  generalize cnt c lb false false = B at *
  generalize hall : la ++ lb = all at *
  generalize cnt c all false false = C at *
  have hsub : ∀ {w Fs}, Goes w0 [] (f2 :: Fs) w → Sl w a2 cap2 5 (all.map Item.enc) := fun h => items_own hO2 h rfl rfl (by omega)
  by_cases hk : 0 ≤ k ∧ k < (all.length : Int)
  · obtain ⟨kn, rfl⟩ : ∃ kn : Nat, k = kn := ⟨k.toNat, by omega⟩
    have hkl : kn < all.length := by omega
    replace hless := hless kn hkl
    have hcn : cnt c (all.take kn ++ all.drop (kn + 1)) false false + 1 ≤ all.length + 1 := by
      have h1 := endsL_le c (all.take kn ++ all.drop (kn + 1)) 0 false false
      rw [endsL_cnt] at h1
      simp only [List.length_append, List.length_take, List.length_drop] at h1
      omega
    have s1 : ∀ {w Fs}, Goes w0 [] (f2 :: Fs) w → Src Try.prog 5 22 (.slice a2 kn cap2) kn ((all.take kn).map Item.enc).flatten w := fun h => by
      have := items_src (its := all.take kn) (by rw [List.map_take]; exact (hsub h).pre kn)
      rwa [List.length_take_of_le (by omega)] at this
    have s2 : ∀ {w Fs}, Goes w0 [] (f2 :: Fs) w → Src Try.prog 5 22 (.slice (moved a2 (kn + 1) 5 cap2) (all.length - (kn + 1)) (cap2 - (kn + 1))) (all.length - (kn + 1)) ((all.drop (kn + 1)).map Item.enc).flatten w := fun h => by
      have h1 := (hsub h).part (kn + 1) (all.length - (kn + 1)) (by simp; omega)
      rw [← List.map_drop, ← List.map_take, List.take_of_length_le (by simp)] at h1
      have := items_src h1
      rwa [List.length_drop] at this
    have hle2 : all.length ≤ cap2 := hO2.le
    rcases hj with rfl | rfl
    all_goals
      repeat' (first
        | with_reducible refine QX.next ?_ | with_reducible refine WC.seq ?_ | with_reducible refine WC.region ?_ | with_reducible refine WC.block ?_ | with_reducible refine QX.bnorm ?_ | with_reducible refine QX.bret ?_ | with_reducible refine QX.ret ?_ | with_reducible refine QX.exit ?_ | with_reducible refine QX.bsame ?_ | with_reducible refine QX.bother rfl ?_
        | with_reducible refine WO.nil ?_ | with_reducible refine WC.skip ?_ | with_reducible refine WC.ret ?_ | with_reducible refine WC.exit ?_ | ((with_reducible refine WC.id ?_); first | refine WC.condT rfl ?_ | refine WC.condF rfl ?_)
        | (refine WC.quietG hg ?_; clear hg) | ((with_reducible refine WQ.nilG ?_); intro w hg)
        | ((with_reducible refine WQ.cid ?_); first | refine WQ.xG ?_ | refine WQ.pure ?_)
        | ((with_reducible refine WQ.gid ?_); first | refine WQ.on rfl ?_ | refine WQ.offN rfl rfl ?_)
        | ((with_reducible refine WO.cid ?_); first
          | refine WO.x ?_ | (refine op_alloc hg ?_; clear hg; intro b w hg; refine WO.fr ?_) | (refine op_boxA hg ?_; clear hg; intro b w hg; refine WO.fr ?_) | (refine op_box1 hg ?_; clear hg; intro b w hg; refine WO.fr ?_)
          | (refine op_store hg ?_; clear hg; intro w hg; refine WO.fr ?_; try simp only [List.set_cons_succ, List.set_cons_zero] at hg)
          | (refine op_storeA hg ?_; clear hg; intro w hg; refine WO.fr ?_; try simp only [over, List.take_zero, List.take_succ_cons, List.drop_zero, List.drop_succ_cons, List.nil_append, List.cons_append, List.append_nil, List.length_cons, List.length_nil, Nat.zero_add, Nat.reduceAdd, splice, cellsL] at hg)
          | (refine op_pure hg ?_; clear hg; intro w hg; refine WO.fr ?_) | (refine op_pureB hg ?_; clear hg; intro w hg c hc; cases c <;> refine WO.fr ?_))
        | ((with_reducible refine WO.gid ?_); first | refine WO.on rfl ?_ | refine WO.offN rfl rfl ?_))
      refine WC.drawn hg ?_
      clear hg
      intro w hg
      refine WA.pass 1 ?_
      refine WA.pass 2 ?_
      refine WA.pass 3 ?_
      refine WA.pass 5 ?_
      refine WA.pass 6 ?_
      refine WA.pass 7 ?_
      refine WA.pass 8 ?_
      refine WA.pass 10 ?_
      refine WA.only 0 ?_
      refine op_buildNil hg ?_
      clear hg
      intro b3 w hO hg
      refine WO.fr ?_
      refine WO.nilA ?_
      refine WA.only 4 ?_
      refine op_append hg hO (s1 (hg.front 1)) ?_
      clear hg hO
      intro a3 cap3 f3 w hO hg
      refine WO.fr ?_
      refine WO.nilA ?_
      refine WA.only 9 ?_
      refine op_append hg hO (s2 (hg.front 1)) ?_
      clear hg hO
      intro a4 cap4 f4 w hO4 hg
      have hl4 : 0 + kn + (all.length - (kn + 1)) = (all.take kn ++ all.drop (kn + 1)).length := by simp; omega
      have hl5 : (all.take kn ++ all.drop (kn + 1)).length ≤ all.length := by simp; omega
      rw [hl4] at hO4 ⊢
      have p5 : ∀ {w Fs}, Goes w0 [] (f4 :: Fs) w → Calls Try.prog 9 #[.slice a4 (all.take kn ++ all.drop (kn + 1)).length cap4, .int .i64 c] w _ := fun h => Rounds_spec _ a4 cap4 _ c (items_own hO4 h (by simp) rfl (by omega))
      simp only [endsL_cnt] at p5
      refine WO.fr ?_
      generalize cnt c (all.take kn ++ all.drop (kn + 1)) false false = D at *
      refine WO.nilA ?_
      refine WA.only 11 ?_
      refine op_pure hg ?_
      clear hg
      intro w hg
      refine WO.fr ?_
      refine WO.nilA ?_
      refine WA.pass 12 ?_
      refine WA.nil ?_
      rcases hless with rfl | hless
      all_goals
        repeat' (first
          | with_reducible refine QX.next ?_ | with_reducible refine WC.seq ?_ | with_reducible refine WC.region ?_ | with_reducible refine WC.block ?_ | with_reducible refine QX.bnorm ?_ | with_reducible refine QX.bret ?_ | with_reducible refine QX.ret ?_ | with_reducible refine QX.exit ?_ | with_reducible refine QX.bsame ?_ | with_reducible refine QX.bother rfl ?_
          | with_reducible refine WO.nil ?_ | with_reducible refine WC.skip ?_ | with_reducible refine WC.ret ?_ | with_reducible refine WC.exit ?_ | ((with_reducible refine WC.id ?_); first | refine WC.condT rfl ?_ | refine WC.condF rfl ?_)
          | (refine WC.quietG hg ?_; clear hg) | ((with_reducible refine WQ.nilG ?_); intro w hg)
          | ((with_reducible refine WQ.cid ?_); first | refine WQ.xG ?_ | refine WQ.pure ?_)
          | ((with_reducible refine WQ.gid ?_); first | refine WQ.on rfl ?_ | refine WQ.offN rfl rfl ?_)
          | ((with_reducible refine WO.cid ?_); first
            | refine WO.x ?_ | (refine op_alloc hg ?_; clear hg; intro b w hg; refine WO.fr ?_) | (refine op_boxA hg ?_; clear hg; intro b w hg; refine WO.fr ?_) | (refine op_box1 hg ?_; clear hg; intro b w hg; refine WO.fr ?_)
            | (refine op_store hg ?_; clear hg; intro w hg; refine WO.fr ?_; try simp only [List.set_cons_succ, List.set_cons_zero] at hg)
            | (refine op_storeA hg ?_; clear hg; intro w hg; refine WO.fr ?_; try simp only [over, List.take_zero, List.take_succ_cons, List.drop_zero, List.drop_succ_cons, List.nil_append, List.cons_append, List.append_nil, List.length_cons, List.length_nil, Nat.zero_add, Nat.reduceAdd, splice, cellsL] at hg)
            | (refine op_pure hg ?_; clear hg; intro w hg; refine WO.fr ?_) | (refine op_pureB hg ?_; clear hg; intro w hg c hc; cases c <;> refine WO.fr ?_))
          | ((with_reducible refine WO.gid ?_); first | refine WO.on rfl ?_ | refine WO.offN rfl rfl ?_))
        exact ret1 rfl ⟨rfl, hg.drop⟩
  · rcases hj with rfl | rfl
    all_goals
      by_cases hk0 : 0 ≤ k
      all_goals
        repeat' (first
          | with_reducible refine QX.next ?_ | with_reducible refine WC.seq ?_ | with_reducible refine WC.region ?_ | with_reducible refine WC.block ?_ | with_reducible refine QX.bnorm ?_ | with_reducible refine QX.bret ?_ | with_reducible refine QX.ret ?_ | with_reducible refine QX.exit ?_ | with_reducible refine QX.bsame ?_ | with_reducible refine QX.bother rfl ?_
          | with_reducible refine WO.nil ?_ | with_reducible refine WC.skip ?_ | with_reducible refine WC.ret ?_ | with_reducible refine WC.exit ?_ | ((with_reducible refine WC.id ?_); first | refine WC.condT rfl ?_ | refine WC.condF rfl ?_)
          | (refine WC.quietG hg ?_; clear hg) | ((with_reducible refine WQ.nilG ?_); intro w hg)
          | ((with_reducible refine WQ.cid ?_); first | refine WQ.xG ?_ | refine WQ.pure ?_)
          | ((with_reducible refine WQ.gid ?_); first | refine WQ.on rfl ?_ | refine WQ.offN rfl rfl ?_)
          | ((with_reducible refine WO.cid ?_); first
            | refine WO.x ?_ | (refine op_alloc hg ?_; clear hg; intro b w hg; refine WO.fr ?_) | (refine op_boxA hg ?_; clear hg; intro b w hg; refine WO.fr ?_) | (refine op_box1 hg ?_; clear hg; intro b w hg; refine WO.fr ?_)
            | (refine op_store hg ?_; clear hg; intro w hg; refine WO.fr ?_; try simp only [List.set_cons_succ, List.set_cons_zero] at hg)
            | (refine op_storeA hg ?_; clear hg; intro w hg; refine WO.fr ?_; try simp only [over, List.take_zero, List.take_succ_cons, List.drop_zero, List.drop_succ_cons, List.nil_append, List.cons_append, List.append_nil, List.length_cons, List.length_nil, Nat.zero_add, Nat.reduceAdd, splice, cellsL] at hg)
            | (refine op_pure hg ?_; clear hg; intro w hg; refine WO.fr ?_) | (refine op_pureB hg ?_; clear hg; intro w hg c hc; cases c <;> refine WO.fr ?_))
          | ((with_reducible refine WO.gid ?_); first | refine WO.on rfl ?_ | refine WO.offN rfl rfl ?_))
        exact ret1 rfl ⟨rfl, hg.drop⟩
end Go.Proofs.Ytaamnccgciepbaa
