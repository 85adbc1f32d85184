/- history: the iterator of events of a kind. -/
import Derived.Test.YtlomipcjkkjhiaaHsE
namespace Go.Proofs.Ytlomipcjkkjhiaa
open Go Go.RowKit
set_option maxRecDepth 10000
set_option linter.unusedSimpArgs false
set_option linter.unusedVariables false

/-- The events of a kind, with their places. -/
def ofL (kind : Int) : List Ev → Nat → List (Nat × Ev)
  | [], _ => []
  | e :: es, i => if e.kind = kind then (i, e) :: ofL kind es (i + 1) else ofL kind es (i + 1)
theorem ofL_le (kind : Int) : ∀ (es : List Ev) (i : Nat), (ofL kind es i).length ≤ es.length
  | [], _ => by simp [ofL]
  | e :: es, i => by
    have := ofL_le kind es (i + 1)
    rw [ofL]
    split <;> simp only [List.length_cons] <;> omega

theorem of_spec (w : World) (v : Value) (k : Int) (hv : v.cells = #[v]) : Calls Try.prog 37 #[v, .int .i64 k] w fun e w' => ∃ bl bk,
    e = .returned (.func (.func 38) #[] #[.pointer (some ⟨bl, 0, none⟩), .pointer (some ⟨bk, 0, none⟩)]) ∧
    Goes w [] [[(bk, .cells #[.int .i64 k] 3 (0, 0))], [(bl, .cells #[v] 28 (0, 0))]] w' := by
  have hg := Goes.refl w
  refine enter Try.func37 rfl (by simp only [Try.ntmps37, List.length_cons, List.length_nil, Nat.reduceAdd, Nat.reduceSub, List.replicate_succ, List.replicate_zero, List.cons_append, List.nil_append]; exact rfl) ?_
  repeat' (first
    | with_reducible refine QX.next ?_ | with_reducible refine WC.seq ?_ | with_reducible refine WC.region ?_ | with_reducible refine WC.block ?_ | with_reducible refine QX.bnorm ?_ | with_reducible refine QX.bret ?_ | with_reducible refine QX.ret ?_ | with_reducible refine QX.exit ?_ | with_reducible refine QX.bsame ?_ | with_reducible refine QX.bother rfl ?_
    | with_reducible refine WO.nil ?_ | with_reducible refine WC.skip ?_ | with_reducible refine WC.ret ?_ | with_reducible refine WC.exit ?_ | ((with_reducible refine WC.id ?_); first | refine WC.condT rfl ?_ | refine WC.condF rfl ?_)
    | (refine WC.quietG hg ?_; clear hg) | ((with_reducible refine WQ.nilG ?_); intro w hg)
    | ((with_reducible refine WQ.cid ?_); first | refine WQ.xG ?_ | refine WQ.pure ?_)
    | ((with_reducible refine WQ.gid ?_); first | refine WQ.on rfl ?_ | refine WQ.offN rfl rfl ?_)
    | ((with_reducible refine WO.cid ?_); first
      | refine WO.x ?_ | (refine op_alloc hg ?_; clear hg; intro b w hg; refine WO.fr ?_) | (refine op_boxA hg ?_; clear hg; intro b w hg; refine WO.fr ?_) | (refine op_box1 hg ?_; clear hg; intro b w hg; refine WO.fr ?_)
      | (refine op_store hg ?_; clear hg; intro w hg; refine WO.fr ?_; try simp only [List.set_cons_succ, List.set_cons_zero] at hg)
      | (refine op_storeA hg ?_; clear hg; intro w hg; refine WO.fr ?_; try simp only [over, List.take_zero, List.take_succ_cons, List.drop_zero, List.drop_succ_cons, List.nil_append, List.cons_append, List.append_nil, List.length_cons, List.length_nil, Nat.zero_add, Nat.reduceAdd, splice, cellsL] at hg)
      | (refine op_pure hg ?_; clear hg; intro w hg; refine WO.fr ?_) | (refine op_pureB hg ?_; clear hg; intro w hg c hc; cases c <;> refine WO.fr ?_))
    | ((with_reducible refine WO.gid ?_); first | refine WO.on rfl ?_ | refine WO.offN rfl rfl ?_))
  exact ret1 rfl ⟨_, _, rfl, hg⟩

set_option maxHeartbeats 4000000 in
theorem of1_spec (w0 : World) (L bl bk : Nat) (kind : Int) (a : Option Addr) (cap : Nat) (its : List Ev) (H0 : Frag) (J Jx : List (Nat × Ev) → Frag → Prop)
    (hL : w0.cell? ⟨bl, 0, none⟩ = some (.slice a its.length cap)) (hK0 : w0.cell? ⟨bk, 0, none⟩ = some (.int .i64 kind))
    (hS : Sl w0 a cap 14 (its.map Ev.enc)) (nL : bl ∉ keys H0) (nK : bk ∉ keys H0) (nS : its ≠ [] → ∀ p, a = some p → p.block ∉ keys H0)
    (hY : ∀ pre (x : Nat × Ev) w h, pre ++ [x] <+: ofL kind its 0 → J pre h → Owns w h → Yields Try.prog L [.int .i64 x.1, .agg x.2.enc.toArray] w fun e w' => ∃ h', Goes w (keys h) [h'] w' ∧ ((e = .returned (.bool true) ∧ J (pre ++ [x]) h') ∨ (e = .returned (.bool false) ∧ Jx (pre ++ [x]) h')))
    (hH : Owns w0 H0) (h0 : J [] H0) :
    Calls Try.prog 38 #[.func (.yield L) #[] #[], .pointer (some ⟨bl, 0, none⟩), .pointer (some ⟨bk, 0, none⟩)] w0 fun e w' =>
      (∃ v, e = .returned v) ∧ ∃ h', Goes w0 (keys H0) [h'] w' ∧ (J (ofL kind its 0) h' ∨ ∃ pre, pre <+: ofL kind its 0 ∧ Jx pre h') := by
  have hg := hH.goes
  have c1 : ∀ {w Fs}, Goes w0 (keys H0) Fs w → w.cell? ⟨bl, 0, none⟩ = some (.slice a its.length cap) := fun h => h.cellOld hL nL
  have c2 : ∀ {w Fs}, Goes w0 (keys H0) Fs w → w.cell? ⟨bk, 0, none⟩ = some (.int .i64 kind) := fun h => h.cellOld hK0 nK
  have hlim := hS.lim
  simp only [List.length_map] at hlim
  refine enter Try.func38 rfl (by simp only [Try.ntmps38, List.length_cons, List.length_nil, Nat.reduceAdd, Nat.reduceSub, List.replicate_succ, List.replicate_zero, List.cons_append, List.nil_append]; exact rfl) ?_
  repeat' (first
    | with_reducible refine QX.next ?_ | with_reducible refine WC.seq ?_ | with_reducible refine WC.region ?_ | with_reducible refine WC.block ?_ | with_reducible refine QX.bnorm ?_ | with_reducible refine QX.bret ?_ | with_reducible refine QX.ret ?_ | with_reducible refine QX.exit ?_ | with_reducible refine QX.bsame ?_ | with_reducible refine QX.bother rfl ?_
    | with_reducible refine WO.nil ?_ | with_reducible refine WC.skip ?_ | with_reducible refine WC.ret ?_ | with_reducible refine WC.exit ?_ | ((with_reducible refine WC.id ?_); first | refine WC.condT rfl ?_ | refine WC.condF rfl ?_)
    | (refine WC.quietG hg ?_; clear hg) | ((with_reducible refine WQ.nilG ?_); intro w hg)
    | ((with_reducible refine WQ.cid ?_); first | refine WQ.xG ?_ | refine WQ.pure ?_)
    | ((with_reducible refine WQ.gid ?_); first | refine WQ.on rfl ?_ | refine WQ.offN rfl rfl ?_)
    | ((with_reducible refine WO.cid ?_); first
      | refine WO.x ?_ | (refine op_alloc hg ?_; clear hg; intro b w hg; refine WO.fr ?_) | (refine op_boxA hg ?_; clear hg; intro b w hg; refine WO.fr ?_) | (refine op_box1 hg ?_; clear hg; intro b w hg; refine WO.fr ?_)
      | (refine op_store hg ?_; clear hg; intro w hg; refine WO.fr ?_; try simp only [List.set_cons_succ, List.set_cons_zero] at hg)
      | (refine op_storeA hg ?_; clear hg; intro w hg; refine WO.fr ?_; try simp only [over, List.take_zero, List.take_succ_cons, List.drop_zero, List.drop_succ_cons, List.nil_append, List.cons_append, List.append_nil, List.length_cons, List.length_nil, Nat.zero_add, Nat.reduceAdd, splice, cellsL] at hg)
      | (refine op_pure hg ?_; clear hg; intro w hg; refine WO.fr ?_) | (refine op_pureB hg ?_; clear hg; intro w hg c hc; cases c <;> refine WO.fr ?_))
    | ((with_reducible refine WO.gid ?_); first | refine WO.on rfl ?_ | refine WO.offN rfl rfl ?_))
  refine WC.loopS [4, 5, 8, 9, 10, 11, 12, 13, 14, 15, 16, 17, 18, 19, 20, 21, 22, 23, 24] (fun xs d w => ∃ (i : Nat) (pre : List (Nat × Ev)) (h : Frag), d = [] ∧ (gt xs 2) = .int .i64 i ∧ i ≤ its.length ∧ J pre h ∧ pre ++ ofL kind (its.drop i) i = ofL kind its 0 ∧ Goes w0 (keys H0) [h] w) (fun xs _ _ => its.length - (intOf (gt xs 2)).toNat) ?_ ?_
  · exact ⟨0, [], H0, rfl, rfl, Nat.zero_le _, h0, rfl, hg⟩
  clear hg
  intro xs d w hlen hI K hK
  replace hlen := len_cons hlen
  obtain ⟨x4, xs, rfl, hlen⟩ := hlen
  replace hlen := len_cons hlen
  obtain ⟨x5, xs, rfl, hlen⟩ := hlen
  replace hlen := len_cons hlen
  obtain ⟨x8, xs, rfl, hlen⟩ := hlen
  replace hlen := len_cons hlen
  obtain ⟨x9, xs, rfl, hlen⟩ := hlen
  replace hlen := len_cons hlen
  obtain ⟨x10, xs, rfl, hlen⟩ := hlen
  replace hlen := len_cons hlen
  obtain ⟨x11, xs, rfl, hlen⟩ := hlen
  replace hlen := len_cons hlen
  obtain ⟨x12, xs, rfl, hlen⟩ := hlen
  replace hlen := len_cons hlen
  obtain ⟨x13, xs, rfl, hlen⟩ := hlen
  replace hlen := len_cons hlen
  obtain ⟨x14, xs, rfl, hlen⟩ := hlen
  replace hlen := len_cons hlen
  obtain ⟨x15, xs, rfl, hlen⟩ := hlen
  replace hlen := len_cons hlen
  obtain ⟨x16, xs, rfl, hlen⟩ := hlen
  replace hlen := len_cons hlen
  obtain ⟨x17, xs, rfl, hlen⟩ := hlen
  replace hlen := len_cons hlen
  obtain ⟨x18, xs, rfl, hlen⟩ := hlen
  replace hlen := len_cons hlen
  obtain ⟨x19, xs, rfl, hlen⟩ := hlen
  replace hlen := len_cons hlen
  obtain ⟨x20, xs, rfl, hlen⟩ := hlen
  replace hlen := len_cons hlen
  obtain ⟨x21, xs, rfl, hlen⟩ := hlen
  replace hlen := len_cons hlen
  obtain ⟨x22, xs, rfl, hlen⟩ := hlen
  replace hlen := len_cons hlen
  obtain ⟨x23, xs, rfl, hlen⟩ := hlen
  replace hlen := len_cons hlen
  obtain ⟨x24, xs, rfl, hlen⟩ := hlen
  replace hlen := len_nil hlen
  subst hlen
  refine WC.frame (by simp only [setAll, List.set_cons_succ, List.set_cons_zero]; exact rfl) ?_
  simp only [gt] at hI
  obtain ⟨i, pre, h, rfl, rfl, hle, hJ, hpre, hg⟩ := hI
  by_cases hlt : i < its.length
  · obtain ⟨bs, ks, rfl, _, hrow⟩ := hS.at (i := i) (r := its[i].enc) (by simp [hlt])
    have r1 : ∀ {w Fs}, Goes w0 (keys H0) Fs w → Cells w ⟨bs, ks + i * 14, none⟩ [.int .i64 its[i].kind, .int .i64 its[i].id, .int .i64 its[i].client, .int .i64 its[i].op.kind, .int .i64 its[i].op.n, .string its[i].op.data, .int .i64 its[i].res.e, .int .i64 its[i].res.n, .int .i64 its[i].res.k1, .int .i64 its[i].res.k2, .int .i64 its[i].res.k3, .int .i64 its[i].res.k4, .int .i64 its[i].res.k5, .int .i64 its[i].res.k6] := fun h => h.cellsOld hrow (nS (by rintro rfl; simp at hlt) ⟨bs, ks, none⟩ rfl)
    have hstep : ofL kind (its.drop i) i = if its[i].kind = kind then (i, its[i]) :: ofL kind (its.drop (i + 1)) (i + 1) else ofL kind (its.drop (i + 1)) (i + 1) := by
      rw [List.drop_eq_getElem_cons hlt]; rfl
    by_cases hk : its[i].kind = kind
    · rw [if_pos hk] at hstep
      repeat' (first
        | with_reducible refine QX.next ?_ | with_reducible refine WC.seq ?_ | with_reducible refine WC.region ?_ | with_reducible refine WC.block ?_ | with_reducible refine QX.bnorm ?_ | with_reducible refine QX.bret ?_ | with_reducible refine QX.ret ?_ | with_reducible refine QX.exit ?_ | with_reducible refine QX.bsame ?_ | with_reducible refine QX.bother rfl ?_
        | with_reducible refine WO.nil ?_ | with_reducible refine WC.skip ?_ | with_reducible refine WC.ret ?_ | with_reducible refine WC.exit ?_ | ((with_reducible refine WC.id ?_); first | refine WC.condT rfl ?_ | refine WC.condF rfl ?_)
        | (refine WC.quietG hg ?_; clear hg) | ((with_reducible refine WQ.nilG ?_); intro w hg)
        | ((with_reducible refine WQ.cid ?_); first | refine WQ.xG ?_ | refine WQ.pure ?_)
        | ((with_reducible refine WQ.gid ?_); first | refine WQ.on rfl ?_ | refine WQ.offN rfl rfl ?_)
        | ((with_reducible refine WO.cid ?_); first
          | refine WO.x ?_ | (refine op_alloc hg ?_; clear hg; intro b w hg; refine WO.fr ?_) | (refine op_boxA hg ?_; clear hg; intro b w hg; refine WO.fr ?_) | (refine op_box1 hg ?_; clear hg; intro b w hg; refine WO.fr ?_)
          | (refine op_store hg ?_; clear hg; intro w hg; refine WO.fr ?_; try simp only [List.set_cons_succ, List.set_cons_zero] at hg)
          | (refine op_storeA hg ?_; clear hg; intro w hg; refine WO.fr ?_; try simp only [over, List.take_zero, List.take_succ_cons, List.drop_zero, List.drop_succ_cons, List.nil_append, List.cons_append, List.append_nil, List.length_cons, List.length_nil, Nat.zero_add, Nat.reduceAdd, splice, cellsL] at hg)
          | (refine op_pure hg ?_; clear hg; intro w hg; refine WO.fr ?_) | (refine op_pureB hg ?_; clear hg; intro w hg c hc; cases c <;> refine WO.fr ?_))
        | ((with_reducible refine WO.gid ?_); first | refine WO.on rfl ?_ | refine WO.offN rfl rfl ?_))
      replace hg := hg.swap
      refine op_yield (by first | (simp only [ev, gt, put, List.set_cons_succ, List.set_cons_zero, Nat.zero_add, Nat.add_zero, Nat.mul_one, Nat.reduceAdd, Nat.reduceMul, Int.toNat_natCast, Int.reduceToNat, List.map_cons, List.map_nil, List.cons_append, List.nil_append]; exact rfl) | simp only [ev, gt, put, List.set_cons_succ, List.set_cons_zero, Nat.zero_add, Nat.add_zero, Nat.mul_one, Nat.reduceAdd, Nat.reduceMul, Int.toNat_natCast, Int.reduceToNat, List.map_cons, List.map_nil, List.cons_append, List.nil_append]) (by first | (simp only [ev, gt, put, List.set_cons_succ, List.set_cons_zero, Nat.zero_add, Nat.add_zero, Nat.mul_one, Nat.reduceAdd, Nat.reduceMul, Int.toNat_natCast, Int.reduceToNat, List.map_cons, List.map_nil, List.cons_append, List.nil_append]; exact rfl) | simp only [ev, gt, put, List.set_cons_succ, List.set_cons_zero, Nat.zero_add, Nat.add_zero, Nat.mul_one, Nat.reduceAdd, Nat.reduceMul, Int.toNat_natCast, Int.reduceToNat, List.map_cons, List.map_nil, List.cons_append, List.nil_append]) (hY pre (i, its[i]) w h ⟨ofL kind (its.drop (i + 1)) (i + 1), by rw [← hpre, hstep, List.append_assoc]; rfl⟩ hJ hg.owns1) ?_
      rintro e w2 ⟨h', hg2, hh⟩
      replace hg := hg.callF hg2
      clear hg2
      rcases hh with ⟨rfl, hJ'⟩ | ⟨rfl, hJ'⟩ <;> refine ⟨_, rfl, ?_⟩
      · refine WO.fr ?_
        repeat' (first
          | with_reducible refine QX.next ?_ | with_reducible refine WC.seq ?_ | with_reducible refine WC.region ?_ | with_reducible refine WC.block ?_ | with_reducible refine QX.bnorm ?_ | with_reducible refine QX.bret ?_ | with_reducible refine QX.ret ?_ | with_reducible refine QX.exit ?_ | with_reducible refine QX.bsame ?_ | with_reducible refine QX.bother rfl ?_
          | with_reducible refine WO.nil ?_ | with_reducible refine WC.skip ?_ | with_reducible refine WC.ret ?_ | with_reducible refine WC.exit ?_ | ((with_reducible refine WC.id ?_); first | refine WC.condT rfl ?_ | refine WC.condF rfl ?_)
          | (refine WC.quietG hg ?_; clear hg) | ((with_reducible refine WQ.nilG ?_); intro w hg)
          | ((with_reducible refine WQ.cid ?_); first | refine WQ.xG ?_ | refine WQ.pure ?_)
          | ((with_reducible refine WQ.gid ?_); first | refine WQ.on rfl ?_ | refine WQ.offN rfl rfl ?_)
          | ((with_reducible refine WO.cid ?_); first
            | refine WO.x ?_ | (refine op_alloc hg ?_; clear hg; intro b w hg; refine WO.fr ?_) | (refine op_boxA hg ?_; clear hg; intro b w hg; refine WO.fr ?_) | (refine op_box1 hg ?_; clear hg; intro b w hg; refine WO.fr ?_)
            | (refine op_store hg ?_; clear hg; intro w hg; refine WO.fr ?_; try simp only [List.set_cons_succ, List.set_cons_zero] at hg)
            | (refine op_storeA hg ?_; clear hg; intro w hg; refine WO.fr ?_; try simp only [over, List.take_zero, List.take_succ_cons, List.drop_zero, List.drop_succ_cons, List.nil_append, List.cons_append, List.append_nil, List.length_cons, List.length_nil, Nat.zero_add, Nat.reduceAdd, splice, cellsL] at hg)
            | (refine op_pure hg ?_; clear hg; intro w hg; refine WO.fr ?_) | (refine op_pureB hg ?_; clear hg; intro w hg c hc; cases c <;> refine WO.fr ?_))
          | ((with_reducible refine WO.gid ?_); first | refine WO.on rfl ?_ | refine WO.offN rfl rfl ?_))
        with_reducible refine QX.norm ?_
        refine hK _ _ _ ?_ ?_ ?_
        · simp only [setAll, List.map_cons, List.map_nil, gt, List.set_cons_succ, List.set_cons_zero]
        all_goals simp only [List.map_cons, List.map_nil, gt, intOf]
        · exact ⟨i + 1, pre ++ [(i, its[i])], h', trivial, rfl, hlt, hJ', by rw [← hpre, hstep, List.append_assoc]; rfl, hg.sub (by simp)⟩
        · omega
      · refine WO.fr ?_
        repeat' (first
          | with_reducible refine QX.next ?_ | with_reducible refine WC.seq ?_ | with_reducible refine WC.region ?_ | with_reducible refine WC.block ?_ | with_reducible refine QX.bnorm ?_ | with_reducible refine QX.bret ?_ | with_reducible refine QX.ret ?_ | with_reducible refine QX.exit ?_ | with_reducible refine QX.bsame ?_ | with_reducible refine QX.bother rfl ?_
          | with_reducible refine WO.nil ?_ | with_reducible refine WC.skip ?_ | with_reducible refine WC.ret ?_ | with_reducible refine WC.exit ?_ | ((with_reducible refine WC.id ?_); first | refine WC.condT rfl ?_ | refine WC.condF rfl ?_)
          | (refine WC.quietG hg ?_; clear hg) | ((with_reducible refine WQ.nilG ?_); intro w hg)
          | ((with_reducible refine WQ.cid ?_); first | refine WQ.xG ?_ | refine WQ.pure ?_)
          | ((with_reducible refine WQ.gid ?_); first | refine WQ.on rfl ?_ | refine WQ.offN rfl rfl ?_)
          | ((with_reducible refine WO.cid ?_); first
            | refine WO.x ?_ | (refine op_alloc hg ?_; clear hg; intro b w hg; refine WO.fr ?_) | (refine op_boxA hg ?_; clear hg; intro b w hg; refine WO.fr ?_) | (refine op_box1 hg ?_; clear hg; intro b w hg; refine WO.fr ?_)
            | (refine op_store hg ?_; clear hg; intro w hg; refine WO.fr ?_; try simp only [List.set_cons_succ, List.set_cons_zero] at hg)
            | (refine op_storeA hg ?_; clear hg; intro w hg; refine WO.fr ?_; try simp only [over, List.take_zero, List.take_succ_cons, List.drop_zero, List.drop_succ_cons, List.nil_append, List.cons_append, List.append_nil, List.length_cons, List.length_nil, Nat.zero_add, Nat.reduceAdd, splice, cellsL] at hg)
            | (refine op_pure hg ?_; clear hg; intro w hg; refine WO.fr ?_) | (refine op_pureB hg ?_; clear hg; intro w hg c hc; cases c <;> refine WO.fr ?_))
          | ((with_reducible refine WO.gid ?_); first | refine WO.on rfl ?_ | refine WO.offN rfl rfl ?_))
        exact ret0 rfl ⟨⟨_, rfl⟩, h', hg.sub (by simp), .inr ⟨pre ++ [(i, its[i])], ⟨ofL kind (its.drop (i + 1)) (i + 1), by rw [← hpre, hstep, List.append_assoc]; rfl⟩, hJ'⟩⟩
    · rw [if_neg hk] at hstep
      repeat' (first
        | with_reducible refine QX.next ?_ | with_reducible refine WC.seq ?_ | with_reducible refine WC.region ?_ | with_reducible refine WC.block ?_ | with_reducible refine QX.bnorm ?_ | with_reducible refine QX.bret ?_ | with_reducible refine QX.ret ?_ | with_reducible refine QX.exit ?_ | with_reducible refine QX.bsame ?_ | with_reducible refine QX.bother rfl ?_
        | with_reducible refine WO.nil ?_ | with_reducible refine WC.skip ?_ | with_reducible refine WC.ret ?_ | with_reducible refine WC.exit ?_ | ((with_reducible refine WC.id ?_); first | refine WC.condT rfl ?_ | refine WC.condF rfl ?_)
        | (refine WC.quietG hg ?_; clear hg) | ((with_reducible refine WQ.nilG ?_); intro w hg)
        | ((with_reducible refine WQ.cid ?_); first | refine WQ.xG ?_ | refine WQ.pure ?_)
        | ((with_reducible refine WQ.gid ?_); first | refine WQ.on rfl ?_ | refine WQ.offN rfl rfl ?_)
        | ((with_reducible refine WO.cid ?_); first
          | refine WO.x ?_ | (refine op_alloc hg ?_; clear hg; intro b w hg; refine WO.fr ?_) | (refine op_boxA hg ?_; clear hg; intro b w hg; refine WO.fr ?_) | (refine op_box1 hg ?_; clear hg; intro b w hg; refine WO.fr ?_)
          | (refine op_store hg ?_; clear hg; intro w hg; refine WO.fr ?_; try simp only [List.set_cons_succ, List.set_cons_zero] at hg)
          | (refine op_storeA hg ?_; clear hg; intro w hg; refine WO.fr ?_; try simp only [over, List.take_zero, List.take_succ_cons, List.drop_zero, List.drop_succ_cons, List.nil_append, List.cons_append, List.append_nil, List.length_cons, List.length_nil, Nat.zero_add, Nat.reduceAdd, splice, cellsL] at hg)
          | (refine op_pure hg ?_; clear hg; intro w hg; refine WO.fr ?_) | (refine op_pureB hg ?_; clear hg; intro w hg c hc; cases c <;> refine WO.fr ?_))
        | ((with_reducible refine WO.gid ?_); first | refine WO.on rfl ?_ | refine WO.offN rfl rfl ?_))
      with_reducible refine QX.norm ?_
      refine hK _ _ _ ?_ ?_ ?_
      · simp only [setAll, List.map_cons, List.map_nil, gt, List.set_cons_succ, List.set_cons_zero]
      all_goals simp only [List.map_cons, List.map_nil, gt, intOf]
      · exact ⟨i + 1, pre, h, trivial, rfl, hlt, hJ, by rw [← hpre, hstep], hg.sub (by simp)⟩
      · omega
  · repeat' (first
      | with_reducible refine QX.next ?_ | with_reducible refine WC.seq ?_ | with_reducible refine WC.region ?_ | with_reducible refine WC.block ?_ | with_reducible refine QX.bnorm ?_ | with_reducible refine QX.bret ?_ | with_reducible refine QX.ret ?_ | with_reducible refine QX.exit ?_ | with_reducible refine QX.bsame ?_ | with_reducible refine QX.bother rfl ?_
      | with_reducible refine WO.nil ?_ | with_reducible refine WC.skip ?_ | with_reducible refine WC.ret ?_ | with_reducible refine WC.exit ?_ | ((with_reducible refine WC.id ?_); first | refine WC.condT rfl ?_ | refine WC.condF rfl ?_)
      | (refine WC.quietG hg ?_; clear hg) | ((with_reducible refine WQ.nilG ?_); intro w hg)
      | ((with_reducible refine WQ.cid ?_); first | refine WQ.xG ?_ | refine WQ.pure ?_)
      | ((with_reducible refine WQ.gid ?_); first | refine WQ.on rfl ?_ | refine WQ.offN rfl rfl ?_)
      | ((with_reducible refine WO.cid ?_); first
        | refine WO.x ?_ | (refine op_alloc hg ?_; clear hg; intro b w hg; refine WO.fr ?_) | (refine op_boxA hg ?_; clear hg; intro b w hg; refine WO.fr ?_) | (refine op_box1 hg ?_; clear hg; intro b w hg; refine WO.fr ?_)
        | (refine op_store hg ?_; clear hg; intro w hg; refine WO.fr ?_; try simp only [List.set_cons_succ, List.set_cons_zero] at hg)
        | (refine op_storeA hg ?_; clear hg; intro w hg; refine WO.fr ?_; try simp only [over, List.take_zero, List.take_succ_cons, List.drop_zero, List.drop_succ_cons, List.nil_append, List.cons_append, List.append_nil, List.length_cons, List.length_nil, Nat.zero_add, Nat.reduceAdd, splice, cellsL] at hg)
        | (refine op_pure hg ?_; clear hg; intro w hg; refine WO.fr ?_) | (refine op_pureB hg ?_; clear hg; intro w hg c hc; cases c <;> refine WO.fr ?_))
      | ((with_reducible refine WO.gid ?_); first | refine WO.on rfl ?_ | refine WO.offN rfl rfl ?_))
    refine end0 rfl ⟨⟨_, rfl⟩, h, hg.sub (by simp), .inl ?_⟩
    have : its.drop i = [] := List.drop_eq_nil_of_le (by omega)
    rw [this, ofL, List.append_nil] at hpre
    rw [← hpre]; exact hJ
end Go.Proofs.Ytlomipcjkkjhiaa
