/- history: deed, Invoke, Commit, Respond, Of, Len, Events. -/
import Derived.Test.YtlomipcjkkjhiaaHsE
namespace Go.Proofs.Ytlomipcjkkjhiaa
open Go Go.RowKit
set_option maxRecDepth 10000
set_option linter.unusedSimpArgs false
set_option linter.unusedVariables false

/-- The operation of a number, if it is open. -/
def LogS.at (L : LogS) (id : Int) : Option Deed := if id < 0 then none else match L.deeds[id.toNat]? with
  | some d => if d.how = 2 then none else some d
  | none => none

theorem LogS.at_some {L : LogS} {id : Int} {d : Deed} (h : L.at id = some d) : ∃ i : Nat, id = i ∧ L.deeds[i]? = some d ∧ d.how ≠ 2 := by
  unfold LogS.at at h
  split at h
  · cases h
  · rename_i h0
    split at h
    · rename_i x hx
      split at h
      · cases h
      · rename_i h2
        obtain rfl := Option.some.inj h
        exact ⟨id.toNat, by omega, hx, h2⟩
    · cases h
theorem LogS.at_none {L : LogS} {id : Int} (h : L.at id = none) : id < 0 ∨ (∃ i : Nat, id = i ∧ L.deeds.length ≤ i) ∨ ∃ (i : Nat) (d : Deed), id = i ∧ L.deeds[i]? = some d ∧ d.how = 2 := by
  unfold LogS.at at h
  split at h
  · rename_i h0; exact .inl h0
  · rename_i h0
    split at h
    · rename_i x hx
      split at h
      · rename_i h2
        exact .inr (.inr ⟨id.toNat, x, by omega, hx, h2⟩)
      · cases h
    · rename_i hx
      exact .inr (.inl ⟨id.toNat, by omega, by simpa using hx⟩)

set_option maxHeartbeats 4000000 in
theorem deed_no {pl bm cd : Nat} {L : LogS} {ad : Option Addr} {w : World} {id : Int} (hid : L.at id = none) (h1 : w.cell? ⟨pl, 1, none⟩ = some (.slice ad L.deeds.length cd)) (h2 : w.cell? ⟨pl, 2, none⟩ = some (.map (some bm))) (hS : Sl w ad cd 13 (L.deeds.map Deed.enc)) (hn : L.deeds.length ≤ 1000) :
    Calls Try.prog 34 #[.pointer (some ⟨pl, 0, none⟩), .int .i64 id] w fun e w' => e = .returned (.tuple #[.pointer none, .bool false]) ∧ Goes w [] [] w' := by
  have hg := Goes.refl w
  have c1 : ∀ {w' Fs}, Goes w [] Fs w' → w'.cell? ⟨pl, 1, none⟩ = some (.slice ad L.deeds.length cd) := fun h => h.cellOld0 h1
  have p1 : ∀ {w' Fs}, Goes w [] Fs w' → Calls Try.prog 31 #[.pointer (some ⟨pl, 0, none⟩)] w' _ := fun h => made_spec (h.cellOld0 h2)
  rcases LogS.at_none hid with h0 | ⟨i, rfl, hi⟩ | ⟨i, d, rfl, hi, hh⟩
  · refine enter Try.func34 rfl (by simp only [Try.ntmps34, List.length_cons, List.length_nil, Nat.reduceAdd, Nat.reduceSub, List.replicate_succ, List.replicate_zero, List.cons_append, List.nil_append]; exact rfl) ?_
    repeat' (first
      | with_reducible refine QX.next ?_ | with_reducible refine WC.seq ?_ | with_reducible refine WC.region ?_ | with_reducible refine WC.block ?_ | with_reducible refine QX.bnorm ?_ | with_reducible refine QX.bret ?_ | with_reducible refine QX.ret ?_ | with_reducible refine QX.exit ?_ | with_reducible refine QX.bsame ?_ | with_reducible refine QX.bother rfl ?_
      | with_reducible refine WO.nil ?_ | with_reducible refine WC.skip ?_ | with_reducible refine WC.ret ?_ | with_reducible refine WC.exit ?_ | ((with_reducible refine WC.id ?_); first | refine WC.condT rfl ?_ | refine WC.condF rfl ?_)
      | (refine WC.quietG hg ?_; clear hg) | ((with_reducible refine WQ.nilG ?_); intro w hg)
      | ((with_reducible refine WQ.cid ?_); first | refine WQ.xG ?_ | refine WQ.pure ?_)
      | ((with_reducible refine WQ.gid ?_); first | refine WQ.on rfl ?_ | refine WQ.offN rfl rfl ?_)
      | ((with_reducible refine WO.cid ?_); first
        | refine WO.x ?_ | (refine op_alloc hg ?_; clear hg; intro b w hg; refine WO.fr ?_) | (refine op_boxA hg ?_; clear hg; intro b w hg; refine WO.fr ?_) | (refine op_box1 hg ?_; clear hg; intro b w hg; refine WO.fr ?_)
        | (refine op_store hg ?_; clear hg; intro w hg; refine WO.fr ?_; try simp only [List.set_cons_succ, List.set_cons_zero] at hg)
        | (refine op_storeA hg ?_; clear hg; intro w hg; refine WO.fr ?_; try simp only [over, List.take_zero, List.take_succ_cons, List.drop_zero, List.drop_succ_cons, List.nil_append, List.cons_append, List.append_nil, List.length_cons, List.length_nil, Nat.zero_add, Nat.reduceAdd, splice, cellsL] at hg)
        | (refine op_pure hg ?_; clear hg; intro w hg; refine WO.fr ?_) | (refine op_pureB hg ?_; clear hg; intro w hg c hc; cases c <;> refine WO.fr ?_))
      | ((with_reducible refine WO.gid ?_); first | refine WO.on rfl ?_ | refine WO.offN rfl rfl ?_))
    exact ret2 rfl ⟨rfl, hg.drop⟩
  · refine enter Try.func34 rfl (by simp only [Try.ntmps34, List.length_cons, List.length_nil, Nat.reduceAdd, Nat.reduceSub, List.replicate_succ, List.replicate_zero, List.cons_append, List.nil_append]; exact rfl) ?_
    repeat' (first
      | with_reducible refine QX.next ?_ | with_reducible refine WC.seq ?_ | with_reducible refine WC.region ?_ | with_reducible refine WC.block ?_ | with_reducible refine QX.bnorm ?_ | with_reducible refine QX.bret ?_ | with_reducible refine QX.ret ?_ | with_reducible refine QX.exit ?_ | with_reducible refine QX.bsame ?_ | with_reducible refine QX.bother rfl ?_
      | with_reducible refine WO.nil ?_ | with_reducible refine WC.skip ?_ | with_reducible refine WC.ret ?_ | with_reducible refine WC.exit ?_ | ((with_reducible refine WC.id ?_); first | refine WC.condT rfl ?_ | refine WC.condF rfl ?_)
      | (refine WC.quietG hg ?_; clear hg) | ((with_reducible refine WQ.nilG ?_); intro w hg)
      | ((with_reducible refine WQ.cid ?_); first | refine WQ.xG ?_ | refine WQ.pure ?_)
      | ((with_reducible refine WQ.gid ?_); first | refine WQ.on rfl ?_ | refine WQ.offN rfl rfl ?_)
      | ((with_reducible refine WO.cid ?_); first
        | refine WO.x ?_ | (refine op_alloc hg ?_; clear hg; intro b w hg; refine WO.fr ?_) | (refine op_boxA hg ?_; clear hg; intro b w hg; refine WO.fr ?_) | (refine op_box1 hg ?_; clear hg; intro b w hg; refine WO.fr ?_)
        | (refine op_store hg ?_; clear hg; intro w hg; refine WO.fr ?_; try simp only [List.set_cons_succ, List.set_cons_zero] at hg)
        | (refine op_storeA hg ?_; clear hg; intro w hg; refine WO.fr ?_; try simp only [over, List.take_zero, List.take_succ_cons, List.drop_zero, List.drop_succ_cons, List.nil_append, List.cons_append, List.append_nil, List.length_cons, List.length_nil, Nat.zero_add, Nat.reduceAdd, splice, cellsL] at hg)
        | (refine op_pure hg ?_; clear hg; intro w hg; refine WO.fr ?_) | (refine op_pureB hg ?_; clear hg; intro w hg c hc; cases c <;> refine WO.fr ?_))
      | ((with_reducible refine WO.gid ?_); first | refine WO.on rfl ?_ | refine WO.offN rfl rfl ?_))
    exact ret2 rfl ⟨rfl, hg.drop⟩
  · have hlt := (List.getElem?_eq_some_iff.1 hi).1
    obtain ⟨bd, k, rfl, _, hrow⟩ := hS.at (i := i) (r := d.enc) (by simp [hi])
    have c2 : ∀ {w' Fs}, Goes w [] Fs w' → w'.cell? ⟨bd, k + i * 13 + 12, none⟩ = some (.int .i64 d.how) := fun h => h.cellsOld hrow (by simp) 12 _ rfl
    refine enter Try.func34 rfl (by simp only [Try.ntmps34, List.length_cons, List.length_nil, Nat.reduceAdd, Nat.reduceSub, List.replicate_succ, List.replicate_zero, List.cons_append, List.nil_append]; exact rfl) ?_
    repeat' (first
      | with_reducible refine QX.next ?_ | with_reducible refine WC.seq ?_ | with_reducible refine WC.region ?_ | with_reducible refine WC.block ?_ | with_reducible refine QX.bnorm ?_ | with_reducible refine QX.bret ?_ | with_reducible refine QX.ret ?_ | with_reducible refine QX.exit ?_ | with_reducible refine QX.bsame ?_ | with_reducible refine QX.bother rfl ?_
      | with_reducible refine WO.nil ?_ | with_reducible refine WC.skip ?_ | with_reducible refine WC.ret ?_ | with_reducible refine WC.exit ?_ | ((with_reducible refine WC.id ?_); first | refine WC.condT rfl ?_ | refine WC.condF rfl ?_)
      | (refine WC.quietG hg ?_; clear hg) | ((with_reducible refine WQ.nilG ?_); intro w hg)
      | ((with_reducible refine WQ.cid ?_); first | refine WQ.xG ?_ | refine WQ.pure ?_)
      | ((with_reducible refine WQ.gid ?_); first | refine WQ.on rfl ?_ | refine WQ.offN rfl rfl ?_)
      | ((with_reducible refine WO.cid ?_); first
        | refine WO.x ?_ | (refine op_alloc hg ?_; clear hg; intro b w hg; refine WO.fr ?_) | (refine op_boxA hg ?_; clear hg; intro b w hg; refine WO.fr ?_) | (refine op_box1 hg ?_; clear hg; intro b w hg; refine WO.fr ?_)
        | (refine op_store hg ?_; clear hg; intro w hg; refine WO.fr ?_; try simp only [List.set_cons_succ, List.set_cons_zero] at hg)
        | (refine op_storeA hg ?_; clear hg; intro w hg; refine WO.fr ?_; try simp only [over, List.take_zero, List.take_succ_cons, List.drop_zero, List.drop_succ_cons, List.nil_append, List.cons_append, List.append_nil, List.length_cons, List.length_nil, Nat.zero_add, Nat.reduceAdd, splice, cellsL] at hg)
        | (refine op_pure hg ?_; clear hg; intro w hg; refine WO.fr ?_) | (refine op_pureB hg ?_; clear hg; intro w hg c hc; cases c <;> refine WO.fr ?_))
      | ((with_reducible refine WO.gid ?_); first | refine WO.on rfl ?_ | refine WO.offN rfl rfl ?_))
    exact ret2 rfl ⟨rfl, hg.drop⟩

set_option maxHeartbeats 4000000 in
theorem deed_yes {pl bm cd bd : Nat} {L : LogS} {w : World} {i : Nat} {d : Deed} (hid : L.deeds[i]? = some d) (h2d : d.how ≠ 2) (h1 : w.cell? ⟨pl, 1, none⟩ = some (.slice (some ⟨bd, 0, none⟩) L.deeds.length cd)) (h2 : w.cell? ⟨pl, 2, none⟩ = some (.map (some bm))) (hS : Sl w (some ⟨bd, 0, none⟩) cd 13 (L.deeds.map Deed.enc)) (hn : L.deeds.length ≤ 1000) :
    Calls Try.prog 34 #[.pointer (some ⟨pl, 0, none⟩), .int .i64 i] w fun e w' => e = .returned (.tuple #[.pointer (some ⟨bd, i * 13, none⟩), .bool true]) ∧ Goes w [] [] w' := by
  have hg := Goes.refl w
  have c1 : ∀ {w' Fs}, Goes w [] Fs w' → w'.cell? ⟨pl, 1, none⟩ = some (.slice (some ⟨bd, 0, none⟩) L.deeds.length cd) := fun h => h.cellOld0 h1
  have p1 : ∀ {w' Fs}, Goes w [] Fs w' → Calls Try.prog 31 #[.pointer (some ⟨pl, 0, none⟩)] w' _ := fun h => made_spec (h.cellOld0 h2)
  have hlt := (List.getElem?_eq_some_iff.1 hid).1
  obtain ⟨bd', k, he, _, hrow⟩ := hS.at (i := i) (r := d.enc) (by simp [hid])
  simp only [Option.some.injEq, Addr.mk.injEq, and_true] at he
  obtain ⟨rfl, rfl⟩ := he
  rw [Nat.zero_add] at hrow
  have c2 : ∀ {w' Fs}, Goes w [] Fs w' → w'.cell? ⟨bd, i * 13 + 12, none⟩ = some (.int .i64 d.how) := fun h => h.cellsOld hrow (by simp) 12 _ rfl
  refine enter Try.func34 rfl (by simp only [Try.ntmps34, List.length_cons, List.length_nil, Nat.reduceAdd, Nat.reduceSub, List.replicate_succ, List.replicate_zero, List.cons_append, List.nil_append]; exact rfl) ?_
  repeat' (first
    | with_reducible refine QX.next ?_ | with_reducible refine WC.seq ?_ | with_reducible refine WC.region ?_ | with_reducible refine WC.block ?_ | with_reducible refine QX.bnorm ?_ | with_reducible refine QX.bret ?_ | with_reducible refine QX.ret ?_ | with_reducible refine QX.exit ?_ | with_reducible refine QX.bsame ?_ | with_reducible refine QX.bother rfl ?_
    | with_reducible refine WO.nil ?_ | with_reducible refine WC.skip ?_ | with_reducible refine WC.ret ?_ | with_reducible refine WC.exit ?_ | ((with_reducible refine WC.id ?_); first | refine WC.condT rfl ?_ | refine WC.condF rfl ?_)
    | (refine WC.quietG hg ?_; clear hg) | ((with_reducible refine WQ.nilG ?_); intro w hg)
    | ((with_reducible refine WQ.cid ?_); first | refine WQ.xG ?_ | refine WQ.pure ?_)
    | ((with_reducible refine WQ.gid ?_); first | refine WQ.on rfl ?_ | refine WQ.offN rfl rfl ?_)
    | ((with_reducible refine WO.cid ?_); first
      | refine WO.x ?_ | (refine op_alloc hg ?_; clear hg; intro b w hg; refine WO.fr ?_) | (refine op_boxA hg ?_; clear hg; intro b w hg; refine WO.fr ?_) | (refine op_box1 hg ?_; clear hg; intro b w hg; refine WO.fr ?_)
      | (refine op_store hg ?_; clear hg; intro w hg; refine WO.fr ?_; try simp only [List.set_cons_succ, List.set_cons_zero] at hg)
      | (refine op_storeA hg ?_; clear hg; intro w hg; refine WO.fr ?_; try simp only [over, List.take_zero, List.take_succ_cons, List.drop_zero, List.drop_succ_cons, List.nil_append, List.cons_append, List.append_nil, List.length_cons, List.length_nil, Nat.zero_add, Nat.reduceAdd, splice, cellsL] at hg)
      | (refine op_pure hg ?_; clear hg; intro w hg; refine WO.fr ?_) | (refine op_pureB hg ?_; clear hg; intro w hg c hc; cases c <;> refine WO.fr ?_))
    | ((with_reducible refine WO.gid ?_); first | refine WO.on rfl ?_ | refine WO.offN rfl rfl ?_))
  exact ret2 rfl ⟨by simp [gt], hg.drop⟩

/-- What Invoke does. -/
def LogS.inv (L : LogS) (c : Int) (o : AOp) : LogS := { events := L.events ++ [⟨1, L.deeds.length, c, o, Res.none⟩], deeds := L.deeds ++ [⟨c, o, Res.none, 0⟩], of := mset L.of c L.deeds.length }

set_option maxHeartbeats 4000000 in
theorem Invoke_spec {pl : Nat} {L : LogS} {h : Frag} {w0 : World} (c : Int) (o : AOp) (hO : Owns w0 h) (hL : LogF pl L h) (hn : L.events.length ≤ 999 ∧ L.deeds.length ≤ 999) :
    Calls Try.prog 10 #[.pointer (some ⟨pl, 0, none⟩), .int .i64 c, .agg o.enc.toArray] w0 fun e w' => ∃ h', Goes w0 (keys h) [h'] w' ∧
      ((mget L.of c = none ∧ LogF pl (L.inv c o) h' ∧ e = .returned (.tuple #[.int .i64 L.deeds.length, .bool true])) ∨ ((mget L.of c).isSome = true ∧ LogF pl L h' ∧ e = .returned (.tuple #[.int .i64 0, .bool false]))) := by
  obtain ⟨_, fe, fd, _, rfl, @⟨ae, ad, ce, cd, bm, clock, es, _, _, he, hd, hm⟩⟩ := hL
  have hg := hO.goes.four
  have p1 : ∀ {w : World} {x : Frag}, Goes w0 (keys ([(pl, .cells [.slice ae L.events.length ce, .slice ad L.deeds.length cd, .map (some bm)].toArray 55 (0, 0))] ++ (fe ++ (fd ++ [(bm, .map es clock)])))) [x, [(pl, .cells [.slice ae L.events.length ce, .slice ad L.deeds.length cd, .map (some bm)].toArray 55 (0, 0))], fe, fd, [(bm, .map es clock)]] w → Calls Try.prog 31 #[.pointer (some ⟨pl, 0, none⟩)] w _ := fun h => made_spec (heap_cell (h.own (pl, .cells [.slice ae L.events.length ce, .slice ad L.deeds.length cd, .map (some bm)].toArray 55 (0, 0)) (by simp)) rfl)
  simp only [AOp.enc]
  refine enter Try.func10 rfl (by simp only [Try.ntmps10, List.length_cons, List.length_nil, Nat.reduceAdd, Nat.reduceSub, List.replicate_succ, List.replicate_zero, List.cons_append, List.nil_append]; exact rfl) ?_
  repeat' (first
    | with_reducible refine QX.next ?_ | with_reducible refine WC.seq ?_ | with_reducible refine WC.region ?_ | with_reducible refine WC.block ?_ | with_reducible refine QX.bnorm ?_ | with_reducible refine QX.bret ?_ | with_reducible refine QX.ret ?_ | with_reducible refine QX.exit ?_ | with_reducible refine QX.bsame ?_ | with_reducible refine QX.bother rfl ?_
    | with_reducible refine WO.nil ?_ | with_reducible refine WC.skip ?_ | with_reducible refine WC.ret ?_ | with_reducible refine WC.exit ?_ | ((with_reducible refine WC.id ?_); first | refine WC.condT rfl ?_ | refine WC.condF rfl ?_)
    | (refine WC.quietG hg ?_; clear hg) | ((with_reducible refine WQ.nilG ?_); intro w hg)
    | ((with_reducible refine WQ.cid ?_); first | refine WQ.xG ?_ | refine WQ.pure ?_)
    | ((with_reducible refine WQ.gid ?_); first | refine WQ.on rfl ?_ | refine WQ.offN rfl rfl ?_)
    | ((with_reducible refine WO.cid ?_); first
      | refine WO.x ?_ | (refine op_alloc hg ?_; clear hg; intro b w hg; refine WO.fr ?_) | (refine op_boxA hg ?_; clear hg; intro b w hg; refine WO.fr ?_) | (refine op_box1 hg ?_; clear hg; intro b w hg; refine WO.fr ?_)
      | (refine op_store hg ?_; clear hg; intro w hg; refine WO.fr ?_; try simp only [List.set_cons_succ, List.set_cons_zero] at hg)
      | (refine op_storeA hg ?_; clear hg; intro w hg; refine WO.fr ?_; try simp only [over, List.take_zero, List.take_succ_cons, List.drop_zero, List.drop_succ_cons, List.nil_append, List.cons_append, List.append_nil, List.length_cons, List.length_nil, Nat.zero_add, Nat.reduceAdd, splice, cellsL] at hg)
      | (refine op_pure hg ?_; clear hg; intro w hg; refine WO.fr ?_) | (refine op_pureB hg ?_; clear hg; intro w hg c hc; cases c <;> refine WO.fr ?_))
    | ((with_reducible refine WO.gid ?_); first | refine WO.on rfl ?_ | refine WO.offN rfl rfl ?_))
  refine WO.x ?_ (hx := x_lookupOk (hg.own (bm, .map es clock) (by simp)) hm)
  cases hmg : mget L.of c with
  | some x =>
    repeat' (first
      | with_reducible refine QX.next ?_ | with_reducible refine WC.seq ?_ | with_reducible refine WC.region ?_ | with_reducible refine WC.block ?_ | with_reducible refine QX.bnorm ?_ | with_reducible refine QX.bret ?_ | with_reducible refine QX.ret ?_ | with_reducible refine QX.exit ?_ | with_reducible refine QX.bsame ?_ | with_reducible refine QX.bother rfl ?_
      | with_reducible refine WO.nil ?_ | with_reducible refine WC.skip ?_ | with_reducible refine WC.ret ?_ | with_reducible refine WC.exit ?_ | ((with_reducible refine WC.id ?_); first | refine WC.condT rfl ?_ | refine WC.condF rfl ?_)
      | (refine WC.quietG hg ?_; clear hg) | ((with_reducible refine WQ.nilG ?_); intro w hg)
      | ((with_reducible refine WQ.cid ?_); first | refine WQ.xG ?_ | refine WQ.pure ?_)
      | ((with_reducible refine WQ.gid ?_); first | refine WQ.on rfl ?_ | refine WQ.offN rfl rfl ?_)
      | ((with_reducible refine WO.cid ?_); first
        | refine WO.x ?_ | (refine op_alloc hg ?_; clear hg; intro b w hg; refine WO.fr ?_) | (refine op_boxA hg ?_; clear hg; intro b w hg; refine WO.fr ?_) | (refine op_box1 hg ?_; clear hg; intro b w hg; refine WO.fr ?_)
        | (refine op_store hg ?_; clear hg; intro w hg; refine WO.fr ?_; try simp only [List.set_cons_succ, List.set_cons_zero] at hg)
        | (refine op_storeA hg ?_; clear hg; intro w hg; refine WO.fr ?_; try simp only [over, List.take_zero, List.take_succ_cons, List.drop_zero, List.drop_succ_cons, List.nil_append, List.cons_append, List.append_nil, List.length_cons, List.length_nil, Nat.zero_add, Nat.reduceAdd, splice, cellsL] at hg)
        | (refine op_pure hg ?_; clear hg; intro w hg; refine WO.fr ?_) | (refine op_pureB hg ?_; clear hg; intro w hg c hc; cases c <;> refine WO.fr ?_))
      | ((with_reducible refine WO.gid ?_); first | refine WO.on rfl ?_ | refine WO.offN rfl rfl ?_))
    exact ret2 rfl ⟨[(pl, .cells [.slice ae L.events.length ce, .slice ad L.deeds.length cd, .map (some bm)].toArray 55 (0, 0))] ++ (fe ++ (fd ++ [(bm, .map es clock)])), hg.sub (by simp), .inr ⟨rfl, ⟨_, _, _, _, rfl, .mk (bm := bm) he hd hm⟩, rfl⟩⟩
  | none =>
    repeat' (first
      | with_reducible refine QX.next ?_ | with_reducible refine WC.seq ?_ | with_reducible refine WC.region ?_ | with_reducible refine WC.block ?_ | with_reducible refine QX.bnorm ?_ | with_reducible refine QX.bret ?_ | with_reducible refine QX.ret ?_ | with_reducible refine QX.exit ?_ | with_reducible refine QX.bsame ?_ | with_reducible refine QX.bother rfl ?_
      | with_reducible refine WO.nil ?_ | with_reducible refine WC.skip ?_ | with_reducible refine WC.ret ?_ | with_reducible refine WC.exit ?_ | ((with_reducible refine WC.id ?_); first | refine WC.condT rfl ?_ | refine WC.condF rfl ?_)
      | (refine WC.quietG hg ?_; clear hg) | ((with_reducible refine WQ.nilG ?_); intro w hg)
      | ((with_reducible refine WQ.cid ?_); first | refine WQ.xG ?_ | refine WQ.pure ?_)
      | ((with_reducible refine WQ.gid ?_); first | refine WQ.on rfl ?_ | refine WQ.offN rfl rfl ?_)
      | ((with_reducible refine WO.cid ?_); first
        | refine WO.x ?_ | (refine op_alloc hg ?_; clear hg; intro b w hg; refine WO.fr ?_) | (refine op_boxA hg ?_; clear hg; intro b w hg; refine WO.fr ?_) | (refine op_box1 hg ?_; clear hg; intro b w hg; refine WO.fr ?_)
        | (refine op_store hg ?_; clear hg; intro w hg; refine WO.fr ?_; try simp only [List.set_cons_succ, List.set_cons_zero] at hg)
        | (refine op_storeA hg ?_; clear hg; intro w hg; refine WO.fr ?_; try simp only [over, List.take_zero, List.take_succ_cons, List.drop_zero, List.drop_succ_cons, List.nil_append, List.cons_append, List.append_nil, List.length_cons, List.length_nil, Nat.zero_add, Nat.reduceAdd, splice, cellsL] at hg)
        | (refine op_pure hg ?_; clear hg; intro w hg; refine WO.fr ?_) | (refine op_pureB hg ?_; clear hg; intro w hg c hc; cases c <;> refine WO.fr ?_))
      | ((with_reducible refine WO.gid ?_); first | refine WO.on rfl ?_ | refine WO.offN rfl rfl ?_))
    rename_i b5 _ _ _
    have s1 : ∀ {w : World}, (w.heap[pl]? = some (.cells [.slice ae L.events.length ce, .slice ad L.deeds.length cd, .map (some bm)].toArray 55 (0, 0)) ∧ w.heap[b]? = some (.cells (List.toArray [.int .i64 c, .int .i64 o.kind, .int .i64 o.n, .string o.data, .int .i64 0, .int .i64 0, .int .i64 0, .int .i64 0, .int .i64 0, .int .i64 0, .int .i64 0, .int .i64 0, .int .i64 0]) 61 (0, 0))) → w.cell? ⟨pl, 1, none⟩ = some (.slice ad L.deeds.length cd) := fun h => heap_cell h.1 rfl
    have t1 : ∀ {w : World}, (w.heap[pl]? = some (.cells [.slice ae L.events.length ce, .slice ad L.deeds.length cd, .map (some bm)].toArray 55 (0, 0)) ∧ w.heap[b]? = some (.cells (List.toArray [.int .i64 c, .int .i64 o.kind, .int .i64 o.n, .string o.data, .int .i64 0, .int .i64 0, .int .i64 0, .int .i64 0, .int .i64 0, .int .i64 0, .int .i64 0, .int .i64 0, .int .i64 0]) 61 (0, 0))) → Cells w ⟨b, 0, none⟩ [.int .i64 c, .int .i64 o.kind, .int .i64 o.n, .string o.data, .int .i64 0, .int .i64 0, .int .i64 0, .int .i64 0, .int .i64 0, .int .i64 0, .int .i64 0, .int .i64 0, .int .i64 0] := fun h => heap_cells h.2 rfl
    refine WC.drawn (fun w => w.heap[pl]? = some (.cells [.slice ae L.events.length ce, .slice ad L.deeds.length cd, .map (some bm)].toArray 55 (0, 0)) ∧ w.heap[b]? = some (.cells (List.toArray [.int .i64 c, .int .i64 o.kind, .int .i64 o.n, .string o.data, .int .i64 0, .int .i64 0, .int .i64 0, .int .i64 0, .int .i64 0, .int .i64 0, .int .i64 0, .int .i64 0, .int .i64 0]) 61 (0, 0))) [8, 9, 10] hg ?_
    clear hg
    intro w hg
    have hS : (fun w => w.heap[pl]? = some (.cells [.slice ae L.events.length ce, .slice ad L.deeds.length cd, .map (some bm)].toArray 55 (0, 0)) ∧ w.heap[b]? = some (.cells (List.toArray [.int .i64 c, .int .i64 o.kind, .int .i64 o.n, .string o.data, .int .i64 0, .int .i64 0, .int .i64 0, .int .i64 0, .int .i64 0, .int .i64 0, .int .i64 0, .int .i64 0, .int .i64 0]) 61 (0, 0))) w := ⟨hg.own (pl, _) (by simp), hg.own (b, _) (by simp)⟩
    refine WA.pass 0 hS ?_
    refine WA.pass 1 hS ?_
    refine WA.pass 2 hS ?_
    refine WA.pass 3 hS ?_
    refine WA.passS 4 hS ?_
    refine WA.passS 5 hS ?_
    refine WA.only 6 ?_
    refine op_buildRows (rows := [Deed.enc ⟨c, o, Res.none, 0⟩]) (by first | (simp only [ev, gt, put, List.set_cons_succ, List.set_cons_zero, Nat.zero_add, Nat.add_zero, Nat.mul_one, Nat.reduceAdd, Nat.reduceMul, Int.toNat_natCast, Int.reduceToNat, List.map_cons, List.map_nil, List.cons_append, List.nil_append]; exact rfl) | simp only [ev, gt, put, List.set_cons_succ, List.set_cons_zero, Nat.zero_add, Nat.add_zero, Nat.mul_one, Nat.reduceAdd, Nat.reduceMul, Int.toNat_natCast, Int.reduceToNat, List.map_cons, List.map_nil, List.cons_append, List.nil_append]) rfl (by simp [Deed.enc]) rfl rfl (by decide) hg ?_
    clear hg hS
    intro b3 w hg
    refine WO.fr ?_
    have hS : (fun w => w.heap[pl]? = some (.cells [.slice ae L.events.length ce, .slice ad L.deeds.length cd, .map (some bm)].toArray 55 (0, 0)) ∧ w.heap[b]? = some (.cells (List.toArray [.int .i64 c, .int .i64 o.kind, .int .i64 o.n, .string o.data, .int .i64 0, .int .i64 0, .int .i64 0, .int .i64 0, .int .i64 0, .int .i64 0, .int .i64 0, .int .i64 0, .int .i64 0]) 61 (0, 0))) w := ⟨hg.own (pl, _) (by simp), hg.own (b, _) (by simp)⟩
    refine WO.nilA hS ?_
    refine WA.only 7 ?_
    refine op_append (hg.front 5) hd (hg.src1 Und.out rfl rfl) ?_
    clear hg hS
    intro a' cap' fd' w hd' hg
    refine WO.fr ?_
    have hS : (fun w => w.heap[pl]? = some (.cells [.slice ae L.events.length ce, .slice ad L.deeds.length cd, .map (some bm)].toArray 55 (0, 0)) ∧ w.heap[b]? = some (.cells (List.toArray [.int .i64 c, .int .i64 o.kind, .int .i64 o.n, .string o.data, .int .i64 0, .int .i64 0, .int .i64 0, .int .i64 0, .int .i64 0, .int .i64 0, .int .i64 0, .int .i64 0, .int .i64 0]) 61 (0, 0))) w := ⟨hg.own (pl, _) (by simp), hg.own (b, _) (by simp)⟩
    refine WO.nilA hS ?_
    refine WA.passL 8 ?_
    refine WA.passL 9 ?_
    refine WA.only 10 ?_
    refine op_store hg ?_
    clear hg
    intro w hg
    refine WO.fr ?_
    refine WO.nilL ?_
    refine WA.nil ?_
    repeat' (first
      | with_reducible refine QX.next ?_ | with_reducible refine WC.seq ?_ | with_reducible refine WC.region ?_ | with_reducible refine WC.block ?_ | with_reducible refine QX.bnorm ?_ | with_reducible refine QX.bret ?_ | with_reducible refine QX.ret ?_ | with_reducible refine QX.exit ?_ | with_reducible refine QX.bsame ?_ | with_reducible refine QX.bother rfl ?_
      | with_reducible refine WO.nil ?_ | with_reducible refine WC.skip ?_ | with_reducible refine WC.ret ?_ | with_reducible refine WC.exit ?_ | ((with_reducible refine WC.id ?_); first | refine WC.condT rfl ?_ | refine WC.condF rfl ?_)
      | (refine WC.quietG hg ?_; clear hg) | ((with_reducible refine WQ.nilG ?_); intro w hg)
      | ((with_reducible refine WQ.cid ?_); first | refine WQ.xG ?_ | refine WQ.pure ?_)
      | ((with_reducible refine WQ.gid ?_); first | refine WQ.on rfl ?_ | refine WQ.offN rfl rfl ?_)
      | ((with_reducible refine WO.cid ?_); first
        | refine WO.x ?_ | (refine op_alloc hg ?_; clear hg; intro b w hg; refine WO.fr ?_) | (refine op_boxA hg ?_; clear hg; intro b w hg; refine WO.fr ?_) | (refine op_box1 hg ?_; clear hg; intro b w hg; refine WO.fr ?_)
        | (refine op_store hg ?_; clear hg; intro w hg; refine WO.fr ?_; try simp only [List.set_cons_succ, List.set_cons_zero] at hg)
        | (refine op_storeA hg ?_; clear hg; intro w hg; refine WO.fr ?_; try simp only [over, List.take_zero, List.take_succ_cons, List.drop_zero, List.drop_succ_cons, List.nil_append, List.cons_append, List.append_nil, List.length_cons, List.length_nil, Nat.zero_add, Nat.reduceAdd, splice, cellsL] at hg)
        | (refine op_pure hg ?_; clear hg; intro w hg; refine WO.fr ?_) | (refine op_pureB hg ?_; clear hg; intro w hg c hc; cases c <;> refine WO.fr ?_))
      | ((with_reducible refine WO.gid ?_); first | refine WO.on rfl ?_ | refine WO.offN rfl rfl ?_))
    refine op_mapUpdate (hg.front 6) hm ?_
    clear hg
    intro es' clock' w hm' hg
    refine WO.fr ?_
    repeat' (first
      | with_reducible refine QX.next ?_ | with_reducible refine WC.seq ?_ | with_reducible refine WC.region ?_ | with_reducible refine WC.block ?_ | with_reducible refine QX.bnorm ?_ | with_reducible refine QX.bret ?_ | with_reducible refine QX.ret ?_ | with_reducible refine QX.exit ?_ | with_reducible refine QX.bsame ?_ | with_reducible refine QX.bother rfl ?_
      | with_reducible refine WO.nil ?_ | with_reducible refine WC.skip ?_ | with_reducible refine WC.ret ?_ | with_reducible refine WC.exit ?_ | ((with_reducible refine WC.id ?_); first | refine WC.condT rfl ?_ | refine WC.condF rfl ?_)
      | (refine WC.quietG hg ?_; clear hg) | ((with_reducible refine WQ.nilG ?_); intro w hg)
      | ((with_reducible refine WQ.cid ?_); first | refine WQ.xG ?_ | refine WQ.pure ?_)
      | ((with_reducible refine WQ.gid ?_); first | refine WQ.on rfl ?_ | refine WQ.offN rfl rfl ?_)
      | ((with_reducible refine WO.cid ?_); first
        | refine WO.x ?_ | (refine op_alloc hg ?_; clear hg; intro b w hg; refine WO.fr ?_) | (refine op_boxA hg ?_; clear hg; intro b w hg; refine WO.fr ?_) | (refine op_box1 hg ?_; clear hg; intro b w hg; refine WO.fr ?_)
        | (refine op_store hg ?_; clear hg; intro w hg; refine WO.fr ?_; try simp only [List.set_cons_succ, List.set_cons_zero] at hg)
        | (refine op_storeA hg ?_; clear hg; intro w hg; refine WO.fr ?_; try simp only [over, List.take_zero, List.take_succ_cons, List.drop_zero, List.drop_succ_cons, List.nil_append, List.cons_append, List.append_nil, List.length_cons, List.length_nil, Nat.zero_add, Nat.reduceAdd, splice, cellsL] at hg)
        | (refine op_pure hg ?_; clear hg; intro w hg; refine WO.fr ?_) | (refine op_pureB hg ?_; clear hg; intro w hg c hc; cases c <;> refine WO.fr ?_))
      | ((with_reducible refine WO.gid ?_); first | refine WO.on rfl ?_ | refine WO.offN rfl rfl ?_))
    replace hg := (((hg.front 1).front 6).front 6).unfour
    have hl1 : L.deeds.length + 1 = (L.deeds ++ [(⟨c, o, Res.none, 0⟩ : Deed)]).length := by simp
    have hd2 : (L.deeds.map Deed.enc).flatten ++ (⟨c, o, Res.none, 0⟩ : Deed).enc = ((L.deeds ++ [(⟨c, o, Res.none, 0⟩ : Deed)]).map Deed.enc).flatten := by simp
    rw [hl1] at hg hd'
    rw [hd2] at hd'
    refine op_call (put_spec (L := ⟨L.events, L.deeds ++ [⟨c, o, Res.none, 0⟩], mset L.of c L.deeds.length⟩) 1 L.deeds.length ⟨c, o, Res.none, 0⟩ Res.none hg.owns1 ⟨_, fe, fd', _, rfl, .mk (L := ⟨L.events, L.deeds ++ [⟨c, o, Res.none, 0⟩], mset L.of c L.deeds.length⟩) he hd' hm'⟩ (by show L.events.length ≤ 1000; omega)) ?_
    rintro e w2 ⟨h', ⟨v, rfl⟩, hL', hg3⟩
    replace hg := hg.call1 hg3
    clear hg3
    refine ⟨_, rfl, ?_⟩
    refine WO.fr ?_
    repeat' (first
      | with_reducible refine QX.next ?_ | with_reducible refine WC.seq ?_ | with_reducible refine WC.region ?_ | with_reducible refine WC.block ?_ | with_reducible refine QX.bnorm ?_ | with_reducible refine QX.bret ?_ | with_reducible refine QX.ret ?_ | with_reducible refine QX.exit ?_ | with_reducible refine QX.bsame ?_ | with_reducible refine QX.bother rfl ?_
      | with_reducible refine WO.nil ?_ | with_reducible refine WC.skip ?_ | with_reducible refine WC.ret ?_ | with_reducible refine WC.exit ?_ | ((with_reducible refine WC.id ?_); first | refine WC.condT rfl ?_ | refine WC.condF rfl ?_)
      | (refine WC.quietG hg ?_; clear hg) | ((with_reducible refine WQ.nilG ?_); intro w hg)
      | ((with_reducible refine WQ.cid ?_); first | refine WQ.xG ?_ | refine WQ.pure ?_)
      | ((with_reducible refine WQ.gid ?_); first | refine WQ.on rfl ?_ | refine WQ.offN rfl rfl ?_)
      | ((with_reducible refine WO.cid ?_); first
        | refine WO.x ?_ | (refine op_alloc hg ?_; clear hg; intro b w hg; refine WO.fr ?_) | (refine op_boxA hg ?_; clear hg; intro b w hg; refine WO.fr ?_) | (refine op_box1 hg ?_; clear hg; intro b w hg; refine WO.fr ?_)
        | (refine op_store hg ?_; clear hg; intro w hg; refine WO.fr ?_; try simp only [List.set_cons_succ, List.set_cons_zero] at hg)
        | (refine op_storeA hg ?_; clear hg; intro w hg; refine WO.fr ?_; try simp only [over, List.take_zero, List.take_succ_cons, List.drop_zero, List.drop_succ_cons, List.nil_append, List.cons_append, List.append_nil, List.length_cons, List.length_nil, Nat.zero_add, Nat.reduceAdd, splice, cellsL] at hg)
        | (refine op_pure hg ?_; clear hg; intro w hg; refine WO.fr ?_) | (refine op_pureB hg ?_; clear hg; intro w hg c hc; cases c <;> refine WO.fr ?_))
      | ((with_reducible refine WO.gid ?_); first | refine WO.on rfl ?_ | refine WO.offN rfl rfl ?_))
    exact ret2 rfl ⟨h', hg.sub (by simp), .inl ⟨rfl, hL', rfl⟩⟩

/-- What Commit does. -/
def LogS.com (L : LogS) (i : Nat) (d : Deed) (r : Res) : LogS := { L with events := L.events ++ [⟨2, i, d.client, d.op, r⟩], deeds := L.deeds.set i { d with how := 1, res := r } }

set_option maxHeartbeats 4000000 in
theorem Commit_no {pl : Nat} {L : LogS} {h : Frag} {w0 : World} (id : Int) (r : Res) (hO : Owns w0 h) (hL : LogF pl L h) (hn : L.events.length ≤ 999 ∧ L.deeds.length ≤ 999) (hid : ∀ d, L.at id = some d → d.how ≠ 0) :
    Calls Try.prog 12 #[.pointer (some ⟨pl, 0, none⟩), .int .i64 id, .agg r.enc.toArray] w0 fun e w' => e = .returned (.bool false) ∧ Goes w0 (keys h) [h] w' := by
  obtain ⟨_, fe, fd, _, rfl, @⟨ae, ad, ce, cd, bm, clock, es, _, _, he, hd, hm⟩⟩ := hL
  have hg := hO.goes.four
  have hsl : ∀ {w : World} {x : Frag}, Goes w0 (keys ([(pl, .cells [.slice ae L.events.length ce, .slice ad L.deeds.length cd, .map (some bm)].toArray 55 (0, 0))] ++ (fe ++ (fd ++ [(bm, .map es clock)])))) [x, [(pl, .cells [.slice ae L.events.length ce, .slice ad L.deeds.length cd, .map (some bm)].toArray 55 (0, 0))], fe, fd, [(bm, .map es clock)]] w → Sl w ad cd 13 (L.deeds.map Deed.enc) := fun h => hd.sl (h.front 3) (by simp [Deed.enc]) (by simp) (by omega)
  simp only [Res.enc]
  cases hat : L.at id with
  | none =>
    have p1 : ∀ {w : World} {x : Frag}, Goes w0 (keys ([(pl, .cells [.slice ae L.events.length ce, .slice ad L.deeds.length cd, .map (some bm)].toArray 55 (0, 0))] ++ (fe ++ (fd ++ [(bm, .map es clock)])))) [x, [(pl, .cells [.slice ae L.events.length ce, .slice ad L.deeds.length cd, .map (some bm)].toArray 55 (0, 0))], fe, fd, [(bm, .map es clock)]] w → Calls Try.prog 34 #[.pointer (some ⟨pl, 0, none⟩), .int .i64 id] w _ := fun h => deed_no hat (heap_cell (h.own (pl, .cells [.slice ae L.events.length ce, .slice ad L.deeds.length cd, .map (some bm)].toArray 55 (0, 0)) (by simp)) rfl) (heap_cell (h.own (pl, .cells [.slice ae L.events.length ce, .slice ad L.deeds.length cd, .map (some bm)].toArray 55 (0, 0)) (by simp)) rfl) (hsl h) (by omega)
    refine enter Try.func12 rfl (by simp only [Try.ntmps12, List.length_cons, List.length_nil, Nat.reduceAdd, Nat.reduceSub, List.replicate_succ, List.replicate_zero, List.cons_append, List.nil_append]; exact rfl) ?_
    repeat' (first
      | with_reducible refine QX.next ?_ | with_reducible refine WC.seq ?_ | with_reducible refine WC.region ?_ | with_reducible refine WC.block ?_ | with_reducible refine QX.bnorm ?_ | with_reducible refine QX.bret ?_ | with_reducible refine QX.ret ?_ | with_reducible refine QX.exit ?_ | with_reducible refine QX.bsame ?_ | with_reducible refine QX.bother rfl ?_
      | with_reducible refine WO.nil ?_ | with_reducible refine WC.skip ?_ | with_reducible refine WC.ret ?_ | with_reducible refine WC.exit ?_ | ((with_reducible refine WC.id ?_); first | refine WC.condT rfl ?_ | refine WC.condF rfl ?_)
      | (refine WC.quietG hg ?_; clear hg) | ((with_reducible refine WQ.nilG ?_); intro w hg)
      | ((with_reducible refine WQ.cid ?_); first | refine WQ.xG ?_ | refine WQ.pure ?_)
      | ((with_reducible refine WQ.gid ?_); first | refine WQ.on rfl ?_ | refine WQ.offN rfl rfl ?_)
      | ((with_reducible refine WO.cid ?_); first
        | refine WO.x ?_ | (refine op_alloc hg ?_; clear hg; intro b w hg; refine WO.fr ?_) | (refine op_boxA hg ?_; clear hg; intro b w hg; refine WO.fr ?_) | (refine op_box1 hg ?_; clear hg; intro b w hg; refine WO.fr ?_)
        | (refine op_store hg ?_; clear hg; intro w hg; refine WO.fr ?_; try simp only [List.set_cons_succ, List.set_cons_zero] at hg)
        | (refine op_storeA hg ?_; clear hg; intro w hg; refine WO.fr ?_; try simp only [over, List.take_zero, List.take_succ_cons, List.drop_zero, List.drop_succ_cons, List.nil_append, List.cons_append, List.append_nil, List.length_cons, List.length_nil, Nat.zero_add, Nat.reduceAdd, splice, cellsL] at hg)
        | (refine op_pure hg ?_; clear hg; intro w hg; refine WO.fr ?_) | (refine op_pureB hg ?_; clear hg; intro w hg c hc; cases c <;> refine WO.fr ?_))
      | ((with_reducible refine WO.gid ?_); first | refine WO.on rfl ?_ | refine WO.offN rfl rfl ?_))
    exact ret1 rfl ⟨rfl, hg.sub (by simp)⟩
  | some d =>
    obtain ⟨i, rfl, hi, h2⟩ := LogS.at_some hat
    have h0 := hid d hat
    have hlt := (List.getElem?_eq_some_iff.1 hi).1
    obtain ⟨bd, A, B, rfl, rfl, hA, hset⟩ := hd.split Deed.enc_len hi
    have p1 : ∀ {w : World} {x : Frag}, Goes w0 (keys ([(pl, .cells [.slice ae L.events.length ce, .slice (some ⟨bd, 0, none⟩) L.deeds.length cd, .map (some bm)].toArray 55 (0, 0))] ++ (fe ++ ([(bd, .cells (List.toArray (A ++ (d.enc ++ B))) 61 (0, 0))] ++ ([(bm, .map es clock)]))))) [x, [(pl, .cells [.slice ae L.events.length ce, .slice (some ⟨bd, 0, none⟩) L.deeds.length cd, .map (some bm)].toArray 55 (0, 0))], fe, [(bd, .cells (List.toArray (A ++ (d.enc ++ B))) 61 (0, 0))], [(bm, .map es clock)]] w → Calls Try.prog 34 #[.pointer (some ⟨pl, 0, none⟩), .int .i64 i] w _ := fun h => deed_yes hi h2 (heap_cell (h.own (pl, .cells [.slice ae L.events.length ce, .slice (some ⟨bd, 0, none⟩) L.deeds.length cd, .map (some bm)].toArray 55 (0, 0)) (by simp)) rfl) (heap_cell (h.own (pl, .cells [.slice ae L.events.length ce, .slice (some ⟨bd, 0, none⟩) L.deeds.length cd, .map (some bm)].toArray 55 (0, 0)) (by simp)) rfl) (hsl h) (by omega)
    have k12 : (A ++ (d.enc ++ B))[i * 13 + 12]? = some (.int .i64 d.how) := mid_get hA rfl
    refine enter Try.func12 rfl (by simp only [Try.ntmps12, List.length_cons, List.length_nil, Nat.reduceAdd, Nat.reduceSub, List.replicate_succ, List.replicate_zero, List.cons_append, List.nil_append]; exact rfl) ?_
    repeat' (first
      | with_reducible refine QX.next ?_ | with_reducible refine WC.seq ?_ | with_reducible refine WC.region ?_ | with_reducible refine WC.block ?_ | with_reducible refine QX.bnorm ?_ | with_reducible refine QX.bret ?_ | with_reducible refine QX.ret ?_ | with_reducible refine QX.exit ?_ | with_reducible refine QX.bsame ?_ | with_reducible refine QX.bother rfl ?_
      | with_reducible refine WO.nil ?_ | with_reducible refine WC.skip ?_ | with_reducible refine WC.ret ?_ | with_reducible refine WC.exit ?_ | ((with_reducible refine WC.id ?_); first | refine WC.condT rfl ?_ | refine WC.condF rfl ?_)
      | (refine WC.quietG hg ?_; clear hg) | ((with_reducible refine WQ.nilG ?_); intro w hg)
      | ((with_reducible refine WQ.cid ?_); first | refine WQ.xG ?_ | refine WQ.pure ?_)
      | ((with_reducible refine WQ.gid ?_); first | refine WQ.on rfl ?_ | refine WQ.offN rfl rfl ?_)
      | ((with_reducible refine WO.cid ?_); first
        | refine WO.x ?_ | (refine op_alloc hg ?_; clear hg; intro b w hg; refine WO.fr ?_) | (refine op_boxA hg ?_; clear hg; intro b w hg; refine WO.fr ?_) | (refine op_box1 hg ?_; clear hg; intro b w hg; refine WO.fr ?_)
        | (refine op_store hg ?_; clear hg; intro w hg; refine WO.fr ?_; try simp only [List.set_cons_succ, List.set_cons_zero] at hg)
        | (refine op_storeA hg ?_; clear hg; intro w hg; refine WO.fr ?_; try simp only [over, List.take_zero, List.take_succ_cons, List.drop_zero, List.drop_succ_cons, List.nil_append, List.cons_append, List.append_nil, List.length_cons, List.length_nil, Nat.zero_add, Nat.reduceAdd, splice, cellsL] at hg)
        | (refine op_pure hg ?_; clear hg; intro w hg; refine WO.fr ?_) | (refine op_pureB hg ?_; clear hg; intro w hg c hc; cases c <;> refine WO.fr ?_))
      | ((with_reducible refine WO.gid ?_); first | refine WO.on rfl ?_ | refine WO.offN rfl rfl ?_))
    exact ret1 rfl ⟨rfl, hg.sub (by simp)⟩

set_option maxHeartbeats 4000000 in
theorem Commit_yes {pl : Nat} {L : LogS} {h : Frag} {w0 : World} (i : Nat) (d : Deed) (r : Res) (hO : Owns w0 h) (hL : LogF pl L h) (hn : L.events.length ≤ 999 ∧ L.deeds.length ≤ 999) (hi : L.deeds[i]? = some d) (h0 : d.how = 0) :
    Calls Try.prog 12 #[.pointer (some ⟨pl, 0, none⟩), .int .i64 i, .agg r.enc.toArray] w0 fun e w' => ∃ h', e = .returned (.bool true) ∧ LogF pl (L.com i d r) h' ∧ Goes w0 (keys h) [h'] w' := by
  obtain ⟨_, fe, fd, _, rfl, @⟨ae, ad, ce, cd, bm, clock, es, _, _, he, hd, hm⟩⟩ := hL
  have hg := hO.goes.four
  have hsl : ∀ {w : World} {x : Frag}, Goes w0 (keys ([(pl, .cells [.slice ae L.events.length ce, .slice ad L.deeds.length cd, .map (some bm)].toArray 55 (0, 0))] ++ (fe ++ (fd ++ [(bm, .map es clock)])))) [x, [(pl, .cells [.slice ae L.events.length ce, .slice ad L.deeds.length cd, .map (some bm)].toArray 55 (0, 0))], fe, fd, [(bm, .map es clock)]] w → Sl w ad cd 13 (L.deeds.map Deed.enc) := fun h => hd.sl (h.front 3) (by simp [Deed.enc]) (by simp) (by omega)
  simp only [Res.enc]
  have hlt := (List.getElem?_eq_some_iff.1 hi).1
  obtain ⟨bd, A, B, rfl, rfl, hA, hset⟩ := hd.split Deed.enc_len hi
  have p1 : ∀ {w : World} {x : Frag}, Goes w0 (keys ([(pl, .cells [.slice ae L.events.length ce, .slice (some ⟨bd, 0, none⟩) L.deeds.length cd, .map (some bm)].toArray 55 (0, 0))] ++ (fe ++ ([(bd, .cells (List.toArray (A ++ (d.enc ++ B))) 61 (0, 0))] ++ ([(bm, .map es clock)]))))) [x, [(pl, .cells [.slice ae L.events.length ce, .slice (some ⟨bd, 0, none⟩) L.deeds.length cd, .map (some bm)].toArray 55 (0, 0))], fe, [(bd, .cells (List.toArray (A ++ (d.enc ++ B))) 61 (0, 0))], [(bm, .map es clock)]] w → Calls Try.prog 34 #[.pointer (some ⟨pl, 0, none⟩), .int .i64 i] w _ := fun h => deed_yes hi (by omega) (heap_cell (h.own (pl, .cells [.slice ae L.events.length ce, .slice (some ⟨bd, 0, none⟩) L.deeds.length cd, .map (some bm)].toArray 55 (0, 0)) (by simp)) rfl) (heap_cell (h.own (pl, .cells [.slice ae L.events.length ce, .slice (some ⟨bd, 0, none⟩) L.deeds.length cd, .map (some bm)].toArray 55 (0, 0)) (by simp)) rfl) (hsl h) (by omega)
  have k12 : (A ++ (d.enc ++ B))[i * 13 + 12]? = some (.int .i64 d.how) := mid_get hA rfl
  refine enter Try.func12 rfl (by simp only [Try.ntmps12, List.length_cons, List.length_nil, Nat.reduceAdd, Nat.reduceSub, List.replicate_succ, List.replicate_zero, List.cons_append, List.nil_append]; exact rfl) ?_
  repeat' (first
    | with_reducible refine QX.next ?_ | with_reducible refine WC.seq ?_ | with_reducible refine WC.region ?_ | with_reducible refine WC.block ?_ | with_reducible refine QX.bnorm ?_ | with_reducible refine QX.bret ?_ | with_reducible refine QX.ret ?_ | with_reducible refine QX.exit ?_ | with_reducible refine QX.bsame ?_ | with_reducible refine QX.bother rfl ?_
    | with_reducible refine WO.nil ?_ | with_reducible refine WC.skip ?_ | with_reducible refine WC.ret ?_ | with_reducible refine WC.exit ?_ | ((with_reducible refine WC.id ?_); first | refine WC.condT rfl ?_ | refine WC.condF rfl ?_)
    | (refine WC.quietG hg ?_; clear hg) | ((with_reducible refine WQ.nilG ?_); intro w hg)
    | ((with_reducible refine WQ.cid ?_); first | refine WQ.xG ?_ | refine WQ.pure ?_)
    | ((with_reducible refine WQ.gid ?_); first | refine WQ.on rfl ?_ | refine WQ.offN rfl rfl ?_)
    | ((with_reducible refine WO.cid ?_); first
      | refine WO.x ?_ | (refine op_alloc hg ?_; clear hg; intro b w hg; refine WO.fr ?_) | (refine op_boxA hg ?_; clear hg; intro b w hg; refine WO.fr ?_) | (refine op_box1 hg ?_; clear hg; intro b w hg; refine WO.fr ?_)
      | (refine op_store hg ?_; clear hg; intro w hg; refine WO.fr ?_; try simp only [List.set_cons_succ, List.set_cons_zero] at hg)
      | (refine op_storeA hg ?_; clear hg; intro w hg; refine WO.fr ?_; try simp only [over, List.take_zero, List.take_succ_cons, List.drop_zero, List.drop_succ_cons, List.nil_append, List.cons_append, List.append_nil, List.length_cons, List.length_nil, Nat.zero_add, Nat.reduceAdd, splice, cellsL] at hg)
      | (refine op_pure hg ?_; clear hg; intro w hg; refine WO.fr ?_) | (refine op_pureB hg ?_; clear hg; intro w hg c hc; cases c <;> refine WO.fr ?_))
    | ((with_reducible refine WO.gid ?_); first | refine WO.on rfl ?_ | refine WO.offN rfl rfl ?_))
  have t1 : ∀ {w : World}, (w.heap[b]? = some (.cells (List.toArray [.int .i64 r.e, .int .i64 r.n, .int .i64 r.k1, .int .i64 r.k2, .int .i64 r.k3, .int .i64 r.k4, .int .i64 r.k5, .int .i64 r.k6]) 37 (0, 0))) → Cells w ⟨b, 0, none⟩ [.int .i64 r.e, .int .i64 r.n, .int .i64 r.k1, .int .i64 r.k2, .int .i64 r.k3, .int .i64 r.k4, .int .i64 r.k5, .int .i64 r.k6] := fun h => heap_cells h rfl
  refine WC.drawn (fun w => w.heap[b]? = some (.cells (List.toArray [.int .i64 r.e, .int .i64 r.n, .int .i64 r.k1, .int .i64 r.k2, .int .i64 r.k3, .int .i64 r.k4, .int .i64 r.k5, .int .i64 r.k6]) 37 (0, 0))) [] hg ?_
  clear hg
  intro w hg
  have hS : (fun w => w.heap[b]? = some (.cells (List.toArray [.int .i64 r.e, .int .i64 r.n, .int .i64 r.k1, .int .i64 r.k2, .int .i64 r.k3, .int .i64 r.k4, .int .i64 r.k5, .int .i64 r.k6]) 37 (0, 0))) w := hg.own (b, _) (by simp)
  refine WA.pass 0 hS ?_
  refine WA.pass 1 hS ?_
  refine WA.pass 3 hS ?_
  refine WA.pass 4 hS ?_
  refine WA.passS 2 hS ?_
  refine WA.only 5 ?_
  refine op_store hg ?_ (hk := by simp [Deed.enc, hA] <;> omega)
  clear hg hS
  intro w hg
  rw [mid_set hA (by simp [Deed.enc])] at hg
  refine WO.fr ?_
  have hS : (fun w => w.heap[b]? = some (.cells (List.toArray [.int .i64 r.e, .int .i64 r.n, .int .i64 r.k1, .int .i64 r.k2, .int .i64 r.k3, .int .i64 r.k4, .int .i64 r.k5, .int .i64 r.k6]) 37 (0, 0))) w := hg.own (b, _) (by simp)
  refine WO.nilA hS ?_
  refine WA.pass 6 hS ?_
  refine WA.pass 7 hS ?_
  refine WA.only 8 ?_
  refine op_storeA hg ?_ (hk := by simp [Deed.enc, hA] <;> omega)
  clear hg hS
  intro w hg
  rw [mid_over hA (by simp [Deed.enc])] at hg
  refine WO.fr ?_
  have hS : (fun w => w.heap[b]? = some (.cells (List.toArray [.int .i64 r.e, .int .i64 r.n, .int .i64 r.k1, .int .i64 r.k2, .int .i64 r.k3, .int .i64 r.k4, .int .i64 r.k5, .int .i64 r.k6]) 37 (0, 0))) w := hg.own (b, _) (by simp)
  refine WO.nilA hS ?_
  refine WA.nil ?_
  clear hS t1
  repeat' (first
    | with_reducible refine QX.next ?_ | with_reducible refine WC.seq ?_ | with_reducible refine WC.region ?_ | with_reducible refine WC.block ?_ | with_reducible refine QX.bnorm ?_ | with_reducible refine QX.bret ?_ | with_reducible refine QX.ret ?_ | with_reducible refine QX.exit ?_ | with_reducible refine QX.bsame ?_ | with_reducible refine QX.bother rfl ?_
    | with_reducible refine WO.nil ?_ | with_reducible refine WC.skip ?_ | with_reducible refine WC.ret ?_ | with_reducible refine WC.exit ?_ | ((with_reducible refine WC.id ?_); first | refine WC.condT rfl ?_ | refine WC.condF rfl ?_)
    | ((with_reducible refine WQ.cid ?_); first | refine WQ.xG ?_ | refine WQ.pure ?_)
    | ((with_reducible refine WQ.gid ?_); first | refine WQ.on rfl ?_ | refine WQ.offN rfl rfl ?_)
    | ((with_reducible refine WO.cid ?_); first
      | refine WO.x ?_ | (refine op_alloc hg ?_; clear hg; intro b w hg; refine WO.fr ?_) | (refine op_boxA hg ?_; clear hg; intro b w hg; refine WO.fr ?_) | (refine op_box1 hg ?_; clear hg; intro b w hg; refine WO.fr ?_)
      | (refine op_store hg ?_; clear hg; intro w hg; refine WO.fr ?_; try simp only [List.set_cons_succ, List.set_cons_zero] at hg)
      | (refine op_storeA hg ?_; clear hg; intro w hg; refine WO.fr ?_; try simp only [over, List.take_zero, List.take_succ_cons, List.drop_zero, List.drop_succ_cons, List.nil_append, List.cons_append, List.append_nil, List.length_cons, List.length_nil, Nat.zero_add, Nat.reduceAdd, splice, cellsL] at hg)
      | (refine op_pure hg ?_; clear hg; intro w hg; refine WO.fr ?_) | (refine op_pureB hg ?_; clear hg; intro w hg c hc; cases c <;> refine WO.fr ?_))
    | ((with_reducible refine WO.gid ?_); first | refine WO.on rfl ?_ | refine WO.offN rfl rfl ?_))
  replace hset := hset { d with how := 1, res := r }
  have t1 : ∀ {w : World}, (w.heap[bd]? = some (.cells (List.toArray (A ++ ([.int .i64 d.client, .int .i64 d.op.kind, .int .i64 d.op.n, .string d.op.data, .int .i64 r.e, .int .i64 r.n, .int .i64 r.k1, .int .i64 r.k2, .int .i64 r.k3, .int .i64 r.k4, .int .i64 r.k5, .int .i64 r.k6, .int .i64 1] ++ B))) 61 (0, 0)) ∧ w.heap[b]? = some (.cells (List.toArray [.int .i64 r.e, .int .i64 r.n, .int .i64 r.k1, .int .i64 r.k2, .int .i64 r.k3, .int .i64 r.k4, .int .i64 r.k5, .int .i64 r.k6]) 37 (0, 0))) → Cells w ⟨bd, i * 13, none⟩ [.int .i64 d.client, .int .i64 d.op.kind, .int .i64 d.op.n, .string d.op.data, .int .i64 r.e, .int .i64 r.n, .int .i64 r.k1, .int .i64 r.k2, .int .i64 r.k3, .int .i64 r.k4, .int .i64 r.k5, .int .i64 r.k6, .int .i64 1] := fun h => heap_cells h.1 (mid_rows hA rfl)
  have t2 : ∀ {w : World}, (w.heap[bd]? = some (.cells (List.toArray (A ++ ([.int .i64 d.client, .int .i64 d.op.kind, .int .i64 d.op.n, .string d.op.data, .int .i64 r.e, .int .i64 r.n, .int .i64 r.k1, .int .i64 r.k2, .int .i64 r.k3, .int .i64 r.k4, .int .i64 r.k5, .int .i64 r.k6, .int .i64 1] ++ B))) 61 (0, 0)) ∧ w.heap[b]? = some (.cells (List.toArray [.int .i64 r.e, .int .i64 r.n, .int .i64 r.k1, .int .i64 r.k2, .int .i64 r.k3, .int .i64 r.k4, .int .i64 r.k5, .int .i64 r.k6]) 37 (0, 0))) → Cells w ⟨b, 0, none⟩ [.int .i64 r.e, .int .i64 r.n, .int .i64 r.k1, .int .i64 r.k2, .int .i64 r.k3, .int .i64 r.k4, .int .i64 r.k5, .int .i64 r.k6] := fun h => heap_cells h.2 rfl
  refine WC.drawn (fun w => w.heap[bd]? = some (.cells (List.toArray (A ++ ([.int .i64 d.client, .int .i64 d.op.kind, .int .i64 d.op.n, .string d.op.data, .int .i64 r.e, .int .i64 r.n, .int .i64 r.k1, .int .i64 r.k2, .int .i64 r.k3, .int .i64 r.k4, .int .i64 r.k5, .int .i64 r.k6, .int .i64 1] ++ B))) 61 (0, 0)) ∧ w.heap[b]? = some (.cells (List.toArray [.int .i64 r.e, .int .i64 r.n, .int .i64 r.k1, .int .i64 r.k2, .int .i64 r.k3, .int .i64 r.k4, .int .i64 r.k5, .int .i64 r.k6]) 37 (0, 0))) [6] hg ?_
  clear hg
  intro w hg
  have hS : (fun w => w.heap[bd]? = some (.cells (List.toArray (A ++ ([.int .i64 d.client, .int .i64 d.op.kind, .int .i64 d.op.n, .string d.op.data, .int .i64 r.e, .int .i64 r.n, .int .i64 r.k1, .int .i64 r.k2, .int .i64 r.k3, .int .i64 r.k4, .int .i64 r.k5, .int .i64 r.k6, .int .i64 1] ++ B))) 61 (0, 0)) ∧ w.heap[b]? = some (.cells (List.toArray [.int .i64 r.e, .int .i64 r.n, .int .i64 r.k1, .int .i64 r.k2, .int .i64 r.k3, .int .i64 r.k4, .int .i64 r.k5, .int .i64 r.k6]) 37 (0, 0))) w := ⟨hg.own (bd, .cells (List.toArray (A ++ (Deed.enc { d with how := 1, res := r } ++ B))) 61 (0, 0)) (by simp [Deed.enc, over]), hg.own (b, _) (by simp)⟩
  refine WA.pass 0 hS ?_
  refine WA.pass 1 hS ?_
  refine WA.pass 2 hS ?_
  refine WA.pass 3 hS ?_
  refine WA.passS 4 hS ?_
  refine WA.passS 5 hS ?_
  refine WA.only 6 ?_
  clear hS
  have hl1 : L.deeds.length = (L.deeds.set i { d with how := 1, res := r }).length := by simp
  replace hg := ((((hg.front 4).front 4).front 4).front 4).unfour
  rw [hl1] at hg hset
  refine op_call (put_spec (L := ⟨L.events, L.deeds.set i { d with how := 1, res := r }, L.of⟩) 2 i { d with how := 1, res := r } r hg.owns1 ⟨_, fe, _, _, rfl, .mk (L := ⟨L.events, L.deeds.set i { d with how := 1, res := r }, L.of⟩) he hset hm⟩ (by show L.events.length ≤ 1000; omega)) ?_
  rintro e w2 ⟨h', ⟨v, rfl⟩, hL', hg3⟩
  replace hg := hg.call1 hg3
  clear hg3
  refine ⟨_, rfl, ?_⟩
  refine WO.fr ?_
  refine WO.nilL ?_
  refine WA.nil ?_
  repeat' (first
    | with_reducible refine QX.next ?_ | with_reducible refine WC.seq ?_ | with_reducible refine WC.region ?_ | with_reducible refine WC.block ?_ | with_reducible refine QX.bnorm ?_ | with_reducible refine QX.bret ?_ | with_reducible refine QX.ret ?_ | with_reducible refine QX.exit ?_ | with_reducible refine QX.bsame ?_ | with_reducible refine QX.bother rfl ?_
    | with_reducible refine WO.nil ?_ | with_reducible refine WC.skip ?_ | with_reducible refine WC.ret ?_ | with_reducible refine WC.exit ?_ | ((with_reducible refine WC.id ?_); first | refine WC.condT rfl ?_ | refine WC.condF rfl ?_)
    | (refine WC.quietG hg ?_; clear hg) | ((with_reducible refine WQ.nilG ?_); intro w hg)
    | ((with_reducible refine WQ.cid ?_); first | refine WQ.xG ?_ | refine WQ.pure ?_)
    | ((with_reducible refine WQ.gid ?_); first | refine WQ.on rfl ?_ | refine WQ.offN rfl rfl ?_)
    | ((with_reducible refine WO.cid ?_); first
      | refine WO.x ?_ | (refine op_alloc hg ?_; clear hg; intro b w hg; refine WO.fr ?_) | (refine op_boxA hg ?_; clear hg; intro b w hg; refine WO.fr ?_) | (refine op_box1 hg ?_; clear hg; intro b w hg; refine WO.fr ?_)
      | (refine op_store hg ?_; clear hg; intro w hg; refine WO.fr ?_; try simp only [List.set_cons_succ, List.set_cons_zero] at hg)
      | (refine op_storeA hg ?_; clear hg; intro w hg; refine WO.fr ?_; try simp only [over, List.take_zero, List.take_succ_cons, List.drop_zero, List.drop_succ_cons, List.nil_append, List.cons_append, List.append_nil, List.length_cons, List.length_nil, Nat.zero_add, Nat.reduceAdd, splice, cellsL] at hg)
      | (refine op_pure hg ?_; clear hg; intro w hg; refine WO.fr ?_) | (refine op_pureB hg ?_; clear hg; intro w hg c hc; cases c <;> refine WO.fr ?_))
    | ((with_reducible refine WO.gid ?_); first | refine WO.on rfl ?_ | refine WO.offN rfl rfl ?_))
  exact ret1 rfl ⟨h', rfl, hL', hg.sub (by simp)⟩

/-- What Respond does, and what it wants. -/
def LogS.res (L : LogS) (i : Nat) (d : Deed) (r : Res) : LogS := { events := L.events ++ [⟨3, i, d.client, d.op, r⟩], deeds := L.deeds.set i { d with how := 2 }, of := mdel L.of d.client }
def Deed.want (d : Deed) : Res := if d.how = 1 then d.res else Res.busy

set_option maxHeartbeats 4000000 in
theorem Respond_none {pl : Nat} {L : LogS} {h : Frag} {w0 : World} (id : Int) (r : Res) (hO : Owns w0 h) (hL : LogF pl L h) (hn : L.events.length ≤ 999 ∧ L.deeds.length ≤ 999) (hat : L.at id = none) :
    Calls Try.prog 14 #[.pointer (some ⟨pl, 0, none⟩), .int .i64 id, .agg r.enc.toArray] w0 fun e w' => e = .returned (.bool false) ∧ Goes w0 (keys h) [h] w' := by
  obtain ⟨_, fe, fd, _, rfl, @⟨ae, ad, ce, cd, bm, clock, es, _, _, he, hd, hm⟩⟩ := hL
  have hg := hO.goes.four
  have hsl : ∀ {w : World} {x : Frag}, Goes w0 (keys ([(pl, .cells [.slice ae L.events.length ce, .slice ad L.deeds.length cd, .map (some bm)].toArray 55 (0, 0))] ++ (fe ++ (fd ++ [(bm, .map es clock)])))) [x, [(pl, .cells [.slice ae L.events.length ce, .slice ad L.deeds.length cd, .map (some bm)].toArray 55 (0, 0))], fe, fd, [(bm, .map es clock)]] w → Sl w ad cd 13 (L.deeds.map Deed.enc) := fun h => hd.sl (h.front 3) (by simp [Deed.enc]) (by simp) (by omega)
  simp only [Res.enc]
  have p1 : ∀ {w : World} {x : Frag}, Goes w0 (keys ([(pl, .cells [.slice ae L.events.length ce, .slice ad L.deeds.length cd, .map (some bm)].toArray 55 (0, 0))] ++ (fe ++ (fd ++ [(bm, .map es clock)])))) [x, [(pl, .cells [.slice ae L.events.length ce, .slice ad L.deeds.length cd, .map (some bm)].toArray 55 (0, 0))], fe, fd, [(bm, .map es clock)]] w → Calls Try.prog 34 #[.pointer (some ⟨pl, 0, none⟩), .int .i64 id] w _ := fun h => deed_no hat (heap_cell (h.own (pl, .cells [.slice ae L.events.length ce, .slice ad L.deeds.length cd, .map (some bm)].toArray 55 (0, 0)) (by simp)) rfl) (heap_cell (h.own (pl, .cells [.slice ae L.events.length ce, .slice ad L.deeds.length cd, .map (some bm)].toArray 55 (0, 0)) (by simp)) rfl) (hsl h) (by omega)
  refine enter Try.func14 rfl (by simp only [Try.ntmps14, List.length_cons, List.length_nil, Nat.reduceAdd, Nat.reduceSub, List.replicate_succ, List.replicate_zero, List.cons_append, List.nil_append]; exact rfl) ?_
  repeat' (first
    | with_reducible refine QX.next ?_ | with_reducible refine WC.seq ?_ | with_reducible refine WC.region ?_ | with_reducible refine WC.block ?_ | with_reducible refine QX.bnorm ?_ | with_reducible refine QX.bret ?_ | with_reducible refine QX.ret ?_ | with_reducible refine QX.exit ?_ | with_reducible refine QX.bsame ?_ | with_reducible refine QX.bother rfl ?_
    | with_reducible refine WO.nil ?_ | with_reducible refine WC.skip ?_ | with_reducible refine WC.ret ?_ | with_reducible refine WC.exit ?_ | ((with_reducible refine WC.id ?_); first | refine WC.condT rfl ?_ | refine WC.condF rfl ?_)
    | (refine WC.quietG hg ?_; clear hg) | ((with_reducible refine WQ.nilG ?_); intro w hg)
    | ((with_reducible refine WQ.cid ?_); first | refine WQ.xG ?_ | refine WQ.pure ?_)
    | ((with_reducible refine WQ.gid ?_); first | refine WQ.on rfl ?_ | refine WQ.offN rfl rfl ?_)
    | ((with_reducible refine WO.cid ?_); first
      | refine WO.x ?_ | (refine op_alloc hg ?_; clear hg; intro b w hg; refine WO.fr ?_) | (refine op_boxA hg ?_; clear hg; intro b w hg; refine WO.fr ?_) | (refine op_box1 hg ?_; clear hg; intro b w hg; refine WO.fr ?_)
      | (refine op_store hg ?_; clear hg; intro w hg; refine WO.fr ?_; try simp only [List.set_cons_succ, List.set_cons_zero] at hg)
      | (refine op_storeA hg ?_; clear hg; intro w hg; refine WO.fr ?_; try simp only [over, List.take_zero, List.take_succ_cons, List.drop_zero, List.drop_succ_cons, List.nil_append, List.cons_append, List.append_nil, List.length_cons, List.length_nil, Nat.zero_add, Nat.reduceAdd, splice, cellsL] at hg)
      | (refine op_pure hg ?_; clear hg; intro w hg; refine WO.fr ?_) | (refine op_pureB hg ?_; clear hg; intro w hg c hc; cases c <;> refine WO.fr ?_))
    | ((with_reducible refine WO.gid ?_); first | refine WO.on rfl ?_ | refine WO.offN rfl rfl ?_))
  exact ret1 rfl ⟨rfl, hg.sub (by simp)⟩

set_option maxHeartbeats 4000000 in
theorem Respond_some {pl : Nat} {L : LogS} {h : Frag} {w0 : World} (i : Nat) (d : Deed) (r : Res) (hO : Owns w0 h) (hL : LogF pl L h) (hn : L.events.length ≤ 999 ∧ L.deeds.length ≤ 999) (hi : L.deeds[i]? = some d) (h2 : d.how ≠ 2) :
    Calls Try.prog 14 #[.pointer (some ⟨pl, 0, none⟩), .int .i64 i, .agg r.enc.toArray] w0 fun e w' => ∃ h', Goes w0 (keys h) [h'] w' ∧
      ((r = d.want ∧ e = .returned (.bool true) ∧ LogF pl (L.res i d r) h') ∨ (r ≠ d.want ∧ e = .returned (.bool false) ∧ LogF pl L h')) := by
  obtain ⟨_, fe, fd, _, rfl, @⟨ae, ad, ce, cd, bm, clock, es, _, _, he, hd, hm⟩⟩ := hL
  have hg := hO.goes.four
  have hsl : ∀ {w : World} {x : Frag}, Goes w0 (keys ([(pl, .cells [.slice ae L.events.length ce, .slice ad L.deeds.length cd, .map (some bm)].toArray 55 (0, 0))] ++ (fe ++ (fd ++ [(bm, .map es clock)])))) [x, [(pl, .cells [.slice ae L.events.length ce, .slice ad L.deeds.length cd, .map (some bm)].toArray 55 (0, 0))], fe, fd, [(bm, .map es clock)]] w → Sl w ad cd 13 (L.deeds.map Deed.enc) := fun h => hd.sl (h.front 3) (by simp [Deed.enc]) (by simp) (by omega)
  have hlt := (List.getElem?_eq_some_iff.1 hi).1
  obtain ⟨bd, A, B, rfl, rfl, hA, hset⟩ := hd.split Deed.enc_len hi
  have p1 : ∀ {w : World} {x : Frag}, Goes w0 (keys ([(pl, .cells [.slice ae L.events.length ce, .slice (some ⟨bd, 0, none⟩) L.deeds.length cd, .map (some bm)].toArray 55 (0, 0))] ++ (fe ++ ([(bd, .cells (List.toArray (A ++ (d.enc ++ B))) 61 (0, 0))] ++ ([(bm, .map es clock)]))))) [x, [(pl, .cells [.slice ae L.events.length ce, .slice (some ⟨bd, 0, none⟩) L.deeds.length cd, .map (some bm)].toArray 55 (0, 0))], fe, [(bd, .cells (List.toArray (A ++ (d.enc ++ B))) 61 (0, 0))], [(bm, .map es clock)]] w → Calls Try.prog 34 #[.pointer (some ⟨pl, 0, none⟩), .int .i64 i] w _ := fun h => deed_yes hi (by omega) (heap_cell (h.own (pl, .cells [.slice ae L.events.length ce, .slice (some ⟨bd, 0, none⟩) L.deeds.length cd, .map (some bm)].toArray 55 (0, 0)) (by simp)) rfl) (heap_cell (h.own (pl, .cells [.slice ae L.events.length ce, .slice (some ⟨bd, 0, none⟩) L.deeds.length cd, .map (some bm)].toArray 55 (0, 0)) (by simp)) rfl) (hsl h) (by omega)
  have k12 : (A ++ (d.enc ++ B))[i * 13 + 12]? = some (.int .i64 d.how) := mid_get hA rfl
  have k4 : ((A ++ (d.enc ++ B)).drop (i * 13 + 4)).take 8 = [.int .i64 d.res.e, .int .i64 d.res.n, .int .i64 d.res.k1, .int .i64 d.res.k2, .int .i64 d.res.k3, .int .i64 d.res.k4, .int .i64 d.res.k5, .int .i64 d.res.k6] := mid_part hA rfl (by simp [Deed.enc])
  have e1 := eqL_res r d.res
  have e2 : eqL [.int, .int, .int, .int, .int, .int, .int, .int] [.int .i64 r.e, .int .i64 r.n, .int .i64 r.k1, .int .i64 r.k2, .int .i64 r.k3, .int .i64 r.k4, .int .i64 r.k5, .int .i64 r.k6] [.int .i64 17, .int .i64 0, .int .i64 0, .int .i64 0, .int .i64 0, .int .i64 0, .int .i64 0, .int .i64 0] = some (decide (r = Res.busy)) := eqL_res r Res.busy
  have hlog : LogF pl L ([(pl, .cells [.slice ae L.events.length ce, .slice (some ⟨bd, 0, none⟩) L.deeds.length cd, .map (some bm)].toArray 55 (0, 0))] ++ (fe ++ ([(bd, .cells (List.toArray (A ++ (d.enc ++ B))) 61 (0, 0))] ++ [(bm, .map es clock)]))) := ⟨_, _, _, _, rfl, .mk he hd hm⟩
  simp only [Res.enc] at e1 ⊢
  by_cases h1 : d.how = 1
  · by_cases hr : r = d.res
    · rw [decide_eq_true hr] at e1
      refine enter Try.func14 rfl (by simp only [Try.ntmps14, List.length_cons, List.length_nil, Nat.reduceAdd, Nat.reduceSub, List.replicate_succ, List.replicate_zero, List.cons_append, List.nil_append]; exact rfl) ?_
      repeat' (first
        | with_reducible refine QX.next ?_ | with_reducible refine WC.seq ?_ | with_reducible refine WC.region ?_ | with_reducible refine WC.block ?_ | with_reducible refine QX.bnorm ?_ | with_reducible refine QX.bret ?_ | with_reducible refine QX.ret ?_ | with_reducible refine QX.exit ?_ | with_reducible refine QX.bsame ?_ | with_reducible refine QX.bother rfl ?_
        | with_reducible refine WO.nil ?_ | with_reducible refine WC.skip ?_ | with_reducible refine WC.ret ?_ | with_reducible refine WC.exit ?_ | ((with_reducible refine WC.id ?_); first | refine WC.condT rfl ?_ | refine WC.condF rfl ?_)
        | ((with_reducible refine WQ.cid ?_); first | refine WQ.xG ?_ | refine WQ.pure ?_)
        | ((with_reducible refine WQ.gid ?_); first | refine WQ.on rfl ?_ | refine WQ.offN rfl rfl ?_)
        | ((with_reducible refine WO.cid ?_); first
          | refine WO.x ?_ | (refine op_alloc hg ?_; clear hg; intro b w hg; refine WO.fr ?_) | (refine op_boxA hg ?_; clear hg; intro b w hg; refine WO.fr ?_) | (refine op_box1 hg ?_; clear hg; intro b w hg; refine WO.fr ?_)
          | (refine op_store hg ?_; clear hg; intro w hg; refine WO.fr ?_; try simp only [List.set_cons_succ, List.set_cons_zero] at hg)
          | (refine op_storeA hg ?_; clear hg; intro w hg; refine WO.fr ?_; try simp only [over, List.take_zero, List.take_succ_cons, List.drop_zero, List.drop_succ_cons, List.nil_append, List.cons_append, List.append_nil, List.length_cons, List.length_nil, Nat.zero_add, Nat.reduceAdd, splice, cellsL] at hg)
          | (refine op_pure hg ?_; clear hg; intro w hg; refine WO.fr ?_) | (refine op_pureB hg ?_; clear hg; intro w hg c hc; cases c <;> refine WO.fr ?_))
        | ((with_reducible refine WO.gid ?_); first | refine WO.on rfl ?_ | refine WO.offN rfl rfl ?_))
      refine op_store hg ?_ (hk := by simp [Deed.enc, hA] <;> omega)
      clear hg
      intro w hg
      rw [mid_set hA (by simp [Deed.enc])] at hg
      refine WO.fr ?_
      repeat' (first
        | with_reducible refine QX.next ?_ | with_reducible refine WC.seq ?_ | with_reducible refine WC.region ?_ | with_reducible refine WC.block ?_ | with_reducible refine QX.bnorm ?_ | with_reducible refine QX.bret ?_ | with_reducible refine QX.ret ?_ | with_reducible refine QX.exit ?_ | with_reducible refine QX.bsame ?_ | with_reducible refine QX.bother rfl ?_
        | with_reducible refine WO.nil ?_ | with_reducible refine WC.skip ?_ | with_reducible refine WC.ret ?_ | with_reducible refine WC.exit ?_ | ((with_reducible refine WC.id ?_); first | refine WC.condT rfl ?_ | refine WC.condF rfl ?_)
        | ((with_reducible refine WQ.cid ?_); first | refine WQ.xG ?_ | refine WQ.pure ?_)
        | ((with_reducible refine WQ.gid ?_); first | refine WQ.on rfl ?_ | refine WQ.offN rfl rfl ?_)
        | ((with_reducible refine WO.cid ?_); first
          | refine WO.x ?_ | (refine op_alloc hg ?_; clear hg; intro b w hg; refine WO.fr ?_) | (refine op_boxA hg ?_; clear hg; intro b w hg; refine WO.fr ?_) | (refine op_box1 hg ?_; clear hg; intro b w hg; refine WO.fr ?_)
          | (refine op_store hg ?_; clear hg; intro w hg; refine WO.fr ?_; try simp only [List.set_cons_succ, List.set_cons_zero] at hg)
          | (refine op_storeA hg ?_; clear hg; intro w hg; refine WO.fr ?_; try simp only [over, List.take_zero, List.take_succ_cons, List.drop_zero, List.drop_succ_cons, List.nil_append, List.cons_append, List.append_nil, List.length_cons, List.length_nil, Nat.zero_add, Nat.reduceAdd, splice, cellsL] at hg)
          | (refine op_pure hg ?_; clear hg; intro w hg; refine WO.fr ?_) | (refine op_pureB hg ?_; clear hg; intro w hg c hc; cases c <;> refine WO.fr ?_))
        | ((with_reducible refine WO.gid ?_); first | refine WO.on rfl ?_ | refine WO.offN rfl rfl ?_))
      have s1 : ∀ {w : World}, (w.heap[pl]? = some (.cells [.slice ae L.events.length ce, .slice (some ⟨bd, 0, none⟩) L.deeds.length cd, .map (some bm)].toArray 55 (0, 0)) ∧ w.heap[bd]? = some (.cells (List.toArray (A ++ ([.int .i64 d.client, .int .i64 d.op.kind, .int .i64 d.op.n, .string d.op.data, .int .i64 d.res.e, .int .i64 d.res.n, .int .i64 d.res.k1, .int .i64 d.res.k2, .int .i64 d.res.k3, .int .i64 d.res.k4, .int .i64 d.res.k5, .int .i64 d.res.k6, .int .i64 2] ++ B))) 61 (0, 0))) → w.cell? ⟨pl, 2, none⟩ = some (.map (some bm)) := fun h => heap_cell h.1 rfl
      have s2 : ∀ {w : World}, (w.heap[pl]? = some (.cells [.slice ae L.events.length ce, .slice (some ⟨bd, 0, none⟩) L.deeds.length cd, .map (some bm)].toArray 55 (0, 0)) ∧ w.heap[bd]? = some (.cells (List.toArray (A ++ ([.int .i64 d.client, .int .i64 d.op.kind, .int .i64 d.op.n, .string d.op.data, .int .i64 d.res.e, .int .i64 d.res.n, .int .i64 d.res.k1, .int .i64 d.res.k2, .int .i64 d.res.k3, .int .i64 d.res.k4, .int .i64 d.res.k5, .int .i64 d.res.k6, .int .i64 2] ++ B))) 61 (0, 0))) → w.cell? ⟨bd, i * 13, none⟩ = some (.int .i64 d.client) := fun h => heap_cell h.2 (mid_get0 hA rfl)
      refine WC.drawn (fun w => w.heap[pl]? = some (.cells [.slice ae L.events.length ce, .slice (some ⟨bd, 0, none⟩) L.deeds.length cd, .map (some bm)].toArray 55 (0, 0)) ∧ w.heap[bd]? = some (.cells (List.toArray (A ++ ([.int .i64 d.client, .int .i64 d.op.kind, .int .i64 d.op.n, .string d.op.data, .int .i64 d.res.e, .int .i64 d.res.n, .int .i64 d.res.k1, .int .i64 d.res.k2, .int .i64 d.res.k3, .int .i64 d.res.k4, .int .i64 d.res.k5, .int .i64 d.res.k6, .int .i64 2] ++ B))) 61 (0, 0))) [8] hg ?_
      clear hg
      intro w hg
      have hS : (fun w => w.heap[pl]? = some (.cells [.slice ae L.events.length ce, .slice (some ⟨bd, 0, none⟩) L.deeds.length cd, .map (some bm)].toArray 55 (0, 0)) ∧ w.heap[bd]? = some (.cells (List.toArray (A ++ ([.int .i64 d.client, .int .i64 d.op.kind, .int .i64 d.op.n, .string d.op.data, .int .i64 d.res.e, .int .i64 d.res.n, .int .i64 d.res.k1, .int .i64 d.res.k2, .int .i64 d.res.k3, .int .i64 d.res.k4, .int .i64 d.res.k5, .int .i64 d.res.k6, .int .i64 2] ++ B))) 61 (0, 0))) w := ⟨hg.own (pl, .cells [.slice ae L.events.length ce, .slice (some ⟨bd, 0, none⟩) L.deeds.length cd, .map (some bm)].toArray 55 (0, 0)) (by simp), hg.own (bd, .cells (List.toArray (A ++ ([.int .i64 d.client, .int .i64 d.op.kind, .int .i64 d.op.n, .string d.op.data, .int .i64 d.res.e, .int .i64 d.res.n, .int .i64 d.res.k1, .int .i64 d.res.k2, .int .i64 d.res.k3, .int .i64 d.res.k4, .int .i64 d.res.k5, .int .i64 d.res.k6, .int .i64 2] ++ B))) 61 (0, 0)) (by simp [Deed.enc])⟩
      refine WA.pass 0 hS ?_
      refine WA.pass 1 hS ?_
      refine WA.pass 2 hS ?_
      refine WA.pass 4 hS ?_
      refine WA.pass 5 hS ?_
      refine WA.pass 6 hS ?_
      refine WA.passS 3 hS ?_
      refine WA.passS 7 hS ?_
      refine WA.only 8 ?_
      refine op_delete (hg.front 5) hm ?_
      clear hg hS
      intro es' w hm' hg
      refine WO.fr ?_
      refine WO.nilL ?_
      refine WA.nil ?_
      clear s1 s2
      repeat' (first
        | with_reducible refine QX.next ?_ | with_reducible refine WC.seq ?_ | with_reducible refine WC.region ?_ | with_reducible refine WC.block ?_ | with_reducible refine QX.bnorm ?_ | with_reducible refine QX.bret ?_ | with_reducible refine QX.ret ?_ | with_reducible refine QX.exit ?_ | with_reducible refine QX.bsame ?_ | with_reducible refine QX.bother rfl ?_
        | with_reducible refine WO.nil ?_ | with_reducible refine WC.skip ?_ | with_reducible refine WC.ret ?_ | with_reducible refine WC.exit ?_ | ((with_reducible refine WC.id ?_); first | refine WC.condT rfl ?_ | refine WC.condF rfl ?_)
        | ((with_reducible refine WQ.cid ?_); first | refine WQ.xG ?_ | refine WQ.pure ?_)
        | ((with_reducible refine WQ.gid ?_); first | refine WQ.on rfl ?_ | refine WQ.offN rfl rfl ?_)
        | ((with_reducible refine WO.cid ?_); first
          | refine WO.x ?_ | (refine op_alloc hg ?_; clear hg; intro b w hg; refine WO.fr ?_) | (refine op_boxA hg ?_; clear hg; intro b w hg; refine WO.fr ?_) | (refine op_box1 hg ?_; clear hg; intro b w hg; refine WO.fr ?_)
          | (refine op_store hg ?_; clear hg; intro w hg; refine WO.fr ?_; try simp only [List.set_cons_succ, List.set_cons_zero] at hg)
          | (refine op_storeA hg ?_; clear hg; intro w hg; refine WO.fr ?_; try simp only [over, List.take_zero, List.take_succ_cons, List.drop_zero, List.drop_succ_cons, List.nil_append, List.cons_append, List.append_nil, List.length_cons, List.length_nil, Nat.zero_add, Nat.reduceAdd, splice, cellsL] at hg)
          | (refine op_pure hg ?_; clear hg; intro w hg; refine WO.fr ?_) | (refine op_pureB hg ?_; clear hg; intro w hg c hc; cases c <;> refine WO.fr ?_))
        | ((with_reducible refine WO.gid ?_); first | refine WO.on rfl ?_ | refine WO.offN rfl rfl ?_))
      rename_i b5 _ _ _ _ _ _ _
      replace hset := hset { d with how := 2 }
      have t1 : ∀ {w : World}, (w.heap[bd]? = some (.cells (List.toArray (A ++ ([.int .i64 d.client, .int .i64 d.op.kind, .int .i64 d.op.n, .string d.op.data, .int .i64 d.res.e, .int .i64 d.res.n, .int .i64 d.res.k1, .int .i64 d.res.k2, .int .i64 d.res.k3, .int .i64 d.res.k4, .int .i64 d.res.k5, .int .i64 d.res.k6, .int .i64 2] ++ B))) 61 (0, 0)) ∧ w.heap[b5]? = some (.cells (List.toArray [.int .i64 r.e, .int .i64 r.n, .int .i64 r.k1, .int .i64 r.k2, .int .i64 r.k3, .int .i64 r.k4, .int .i64 r.k5, .int .i64 r.k6]) 37 (0, 0))) → Cells w ⟨bd, i * 13, none⟩ [.int .i64 d.client, .int .i64 d.op.kind, .int .i64 d.op.n, .string d.op.data, .int .i64 d.res.e, .int .i64 d.res.n, .int .i64 d.res.k1, .int .i64 d.res.k2, .int .i64 d.res.k3, .int .i64 d.res.k4, .int .i64 d.res.k5, .int .i64 d.res.k6, .int .i64 2] := fun h => heap_cells h.1 (mid_rows hA rfl)
      have t2 : ∀ {w : World}, (w.heap[bd]? = some (.cells (List.toArray (A ++ ([.int .i64 d.client, .int .i64 d.op.kind, .int .i64 d.op.n, .string d.op.data, .int .i64 d.res.e, .int .i64 d.res.n, .int .i64 d.res.k1, .int .i64 d.res.k2, .int .i64 d.res.k3, .int .i64 d.res.k4, .int .i64 d.res.k5, .int .i64 d.res.k6, .int .i64 2] ++ B))) 61 (0, 0)) ∧ w.heap[b5]? = some (.cells (List.toArray [.int .i64 r.e, .int .i64 r.n, .int .i64 r.k1, .int .i64 r.k2, .int .i64 r.k3, .int .i64 r.k4, .int .i64 r.k5, .int .i64 r.k6]) 37 (0, 0))) → Cells w ⟨b5, 0, none⟩ [.int .i64 r.e, .int .i64 r.n, .int .i64 r.k1, .int .i64 r.k2, .int .i64 r.k3, .int .i64 r.k4, .int .i64 r.k5, .int .i64 r.k6] := fun h => heap_cells h.2 rfl
      refine WC.drawn (fun w => w.heap[bd]? = some (.cells (List.toArray (A ++ ([.int .i64 d.client, .int .i64 d.op.kind, .int .i64 d.op.n, .string d.op.data, .int .i64 d.res.e, .int .i64 d.res.n, .int .i64 d.res.k1, .int .i64 d.res.k2, .int .i64 d.res.k3, .int .i64 d.res.k4, .int .i64 d.res.k5, .int .i64 d.res.k6, .int .i64 2] ++ B))) 61 (0, 0)) ∧ w.heap[b5]? = some (.cells (List.toArray [.int .i64 r.e, .int .i64 r.n, .int .i64 r.k1, .int .i64 r.k2, .int .i64 r.k3, .int .i64 r.k4, .int .i64 r.k5, .int .i64 r.k6]) 37 (0, 0))) [6] hg ?_
      clear hg
      intro w hg
      have hS : (fun w => w.heap[bd]? = some (.cells (List.toArray (A ++ ([.int .i64 d.client, .int .i64 d.op.kind, .int .i64 d.op.n, .string d.op.data, .int .i64 d.res.e, .int .i64 d.res.n, .int .i64 d.res.k1, .int .i64 d.res.k2, .int .i64 d.res.k3, .int .i64 d.res.k4, .int .i64 d.res.k5, .int .i64 d.res.k6, .int .i64 2] ++ B))) 61 (0, 0)) ∧ w.heap[b5]? = some (.cells (List.toArray [.int .i64 r.e, .int .i64 r.n, .int .i64 r.k1, .int .i64 r.k2, .int .i64 r.k3, .int .i64 r.k4, .int .i64 r.k5, .int .i64 r.k6]) 37 (0, 0))) w := ⟨hg.own (bd, .cells (List.toArray (A ++ ([.int .i64 d.client, .int .i64 d.op.kind, .int .i64 d.op.n, .string d.op.data, .int .i64 d.res.e, .int .i64 d.res.n, .int .i64 d.res.k1, .int .i64 d.res.k2, .int .i64 d.res.k3, .int .i64 d.res.k4, .int .i64 d.res.k5, .int .i64 d.res.k6, .int .i64 2] ++ B))) 61 (0, 0)) (by simp [Deed.enc]), hg.own (b5, _) (by simp)⟩
      refine WA.pass 0 hS ?_
      refine WA.pass 1 hS ?_
      refine WA.pass 2 hS ?_
      refine WA.pass 3 hS ?_
      refine WA.passS 4 hS ?_
      refine WA.passS 5 hS ?_
      refine WA.only 6 ?_
      clear hS
      have hl1 : L.deeds.length = (L.deeds.set i { d with how := 2 }).length := by simp
      replace hg := (((hg.front 5).front 5).front 5).unfour
      rw [hl1] at hg hset
      refine op_call (put_spec (L := ⟨L.events, L.deeds.set i { d with how := 2 }, mdel L.of d.client⟩) 3 i { d with how := 2 } r hg.owns1 ⟨_, fe, _, _, rfl, .mk (L := ⟨L.events, L.deeds.set i { d with how := 2 }, mdel L.of d.client⟩) he hset hm'⟩ (by show L.events.length ≤ 1000; omega)) ?_
      rintro e w2 ⟨h', ⟨v, rfl⟩, hL', hg3⟩
      replace hg := hg.call1 hg3
      clear hg3
      refine ⟨_, rfl, ?_⟩
      refine WO.fr ?_
      refine WO.nilL ?_
      refine WA.nil ?_
      repeat' (first
        | with_reducible refine QX.next ?_ | with_reducible refine WC.seq ?_ | with_reducible refine WC.region ?_ | with_reducible refine WC.block ?_ | with_reducible refine QX.bnorm ?_ | with_reducible refine QX.bret ?_ | with_reducible refine QX.ret ?_ | with_reducible refine QX.exit ?_ | with_reducible refine QX.bsame ?_ | with_reducible refine QX.bother rfl ?_
        | with_reducible refine WO.nil ?_ | with_reducible refine WC.skip ?_ | with_reducible refine WC.ret ?_ | with_reducible refine WC.exit ?_ | ((with_reducible refine WC.id ?_); first | refine WC.condT rfl ?_ | refine WC.condF rfl ?_)
        | (refine WC.quietG hg ?_; clear hg) | ((with_reducible refine WQ.nilG ?_); intro w hg)
        | ((with_reducible refine WQ.cid ?_); first | refine WQ.xG ?_ | refine WQ.pure ?_)
        | ((with_reducible refine WQ.gid ?_); first | refine WQ.on rfl ?_ | refine WQ.offN rfl rfl ?_)
        | ((with_reducible refine WO.cid ?_); first
          | refine WO.x ?_ | (refine op_alloc hg ?_; clear hg; intro b w hg; refine WO.fr ?_) | (refine op_boxA hg ?_; clear hg; intro b w hg; refine WO.fr ?_) | (refine op_box1 hg ?_; clear hg; intro b w hg; refine WO.fr ?_)
          | (refine op_store hg ?_; clear hg; intro w hg; refine WO.fr ?_; try simp only [List.set_cons_succ, List.set_cons_zero] at hg)
          | (refine op_storeA hg ?_; clear hg; intro w hg; refine WO.fr ?_; try simp only [over, List.take_zero, List.take_succ_cons, List.drop_zero, List.drop_succ_cons, List.nil_append, List.cons_append, List.append_nil, List.length_cons, List.length_nil, Nat.zero_add, Nat.reduceAdd, splice, cellsL] at hg)
          | (refine op_pure hg ?_; clear hg; intro w hg; refine WO.fr ?_) | (refine op_pureB hg ?_; clear hg; intro w hg c hc; cases c <;> refine WO.fr ?_))
        | ((with_reducible refine WO.gid ?_); first | refine WO.on rfl ?_ | refine WO.offN rfl rfl ?_))
      exact ret1 rfl ⟨h', hg.sub (by simp), .inl ⟨by simpa [Deed.want, h1] using hr, rfl, hL'⟩⟩
    · rw [decide_eq_false hr] at e1
      refine enter Try.func14 rfl (by simp only [Try.ntmps14, List.length_cons, List.length_nil, Nat.reduceAdd, Nat.reduceSub, List.replicate_succ, List.replicate_zero, List.cons_append, List.nil_append]; exact rfl) ?_
      repeat' (first
        | with_reducible refine QX.next ?_ | with_reducible refine WC.seq ?_ | with_reducible refine WC.region ?_ | with_reducible refine WC.block ?_ | with_reducible refine QX.bnorm ?_ | with_reducible refine QX.bret ?_ | with_reducible refine QX.ret ?_ | with_reducible refine QX.exit ?_ | with_reducible refine QX.bsame ?_ | with_reducible refine QX.bother rfl ?_
        | with_reducible refine WO.nil ?_ | with_reducible refine WC.skip ?_ | with_reducible refine WC.ret ?_ | with_reducible refine WC.exit ?_ | ((with_reducible refine WC.id ?_); first | refine WC.condT rfl ?_ | refine WC.condF rfl ?_)
        | ((with_reducible refine WQ.cid ?_); first | refine WQ.xG ?_ | refine WQ.pure ?_)
        | ((with_reducible refine WQ.gid ?_); first | refine WQ.on rfl ?_ | refine WQ.offN rfl rfl ?_)
        | ((with_reducible refine WO.cid ?_); first
          | refine WO.x ?_ | (refine op_alloc hg ?_; clear hg; intro b w hg; refine WO.fr ?_) | (refine op_boxA hg ?_; clear hg; intro b w hg; refine WO.fr ?_) | (refine op_box1 hg ?_; clear hg; intro b w hg; refine WO.fr ?_)
          | (refine op_store hg ?_; clear hg; intro w hg; refine WO.fr ?_; try simp only [List.set_cons_succ, List.set_cons_zero] at hg)
          | (refine op_storeA hg ?_; clear hg; intro w hg; refine WO.fr ?_; try simp only [over, List.take_zero, List.take_succ_cons, List.drop_zero, List.drop_succ_cons, List.nil_append, List.cons_append, List.append_nil, List.length_cons, List.length_nil, Nat.zero_add, Nat.reduceAdd, splice, cellsL] at hg)
          | (refine op_pure hg ?_; clear hg; intro w hg; refine WO.fr ?_) | (refine op_pureB hg ?_; clear hg; intro w hg c hc; cases c <;> refine WO.fr ?_))
        | ((with_reducible refine WO.gid ?_); first | refine WO.on rfl ?_ | refine WO.offN rfl rfl ?_))
      exact ret1 rfl ⟨_, hg.sub (by simp), .inr ⟨by simpa [Deed.want, h1] using hr, rfl, hlog⟩⟩
  · by_cases hr : r = Res.busy
    · rw [decide_eq_true hr] at e2
      refine enter Try.func14 rfl (by simp only [Try.ntmps14, List.length_cons, List.length_nil, Nat.reduceAdd, Nat.reduceSub, List.replicate_succ, List.replicate_zero, List.cons_append, List.nil_append]; exact rfl) ?_
      repeat' (first
        | with_reducible refine QX.next ?_ | with_reducible refine WC.seq ?_ | with_reducible refine WC.region ?_ | with_reducible refine WC.block ?_ | with_reducible refine QX.bnorm ?_ | with_reducible refine QX.bret ?_ | with_reducible refine QX.ret ?_ | with_reducible refine QX.exit ?_ | with_reducible refine QX.bsame ?_ | with_reducible refine QX.bother rfl ?_
        | with_reducible refine WO.nil ?_ | with_reducible refine WC.skip ?_ | with_reducible refine WC.ret ?_ | with_reducible refine WC.exit ?_ | ((with_reducible refine WC.id ?_); first | refine WC.condT rfl ?_ | refine WC.condF rfl ?_)
        | ((with_reducible refine WQ.cid ?_); first | refine WQ.xG ?_ | refine WQ.pure ?_)
        | ((with_reducible refine WQ.gid ?_); first | refine WQ.on rfl ?_ | refine WQ.offN rfl rfl ?_)
        | ((with_reducible refine WO.cid ?_); first
          | refine WO.x ?_ | (refine op_alloc hg ?_; clear hg; intro b w hg; refine WO.fr ?_) | (refine op_boxA hg ?_; clear hg; intro b w hg; refine WO.fr ?_) | (refine op_box1 hg ?_; clear hg; intro b w hg; refine WO.fr ?_)
          | (refine op_store hg ?_; clear hg; intro w hg; refine WO.fr ?_; try simp only [List.set_cons_succ, List.set_cons_zero] at hg)
          | (refine op_storeA hg ?_; clear hg; intro w hg; refine WO.fr ?_; try simp only [over, List.take_zero, List.take_succ_cons, List.drop_zero, List.drop_succ_cons, List.nil_append, List.cons_append, List.append_nil, List.length_cons, List.length_nil, Nat.zero_add, Nat.reduceAdd, splice, cellsL] at hg)
          | (refine op_pure hg ?_; clear hg; intro w hg; refine WO.fr ?_) | (refine op_pureB hg ?_; clear hg; intro w hg c hc; cases c <;> refine WO.fr ?_))
        | ((with_reducible refine WO.gid ?_); first | refine WO.on rfl ?_ | refine WO.offN rfl rfl ?_))
      refine op_store hg ?_ (hk := by simp [Deed.enc, hA] <;> omega)
      clear hg
      intro w hg
      rw [mid_set hA (by simp [Deed.enc])] at hg
      refine WO.fr ?_
      repeat' (first
        | with_reducible refine QX.next ?_ | with_reducible refine WC.seq ?_ | with_reducible refine WC.region ?_ | with_reducible refine WC.block ?_ | with_reducible refine QX.bnorm ?_ | with_reducible refine QX.bret ?_ | with_reducible refine QX.ret ?_ | with_reducible refine QX.exit ?_ | with_reducible refine QX.bsame ?_ | with_reducible refine QX.bother rfl ?_
        | with_reducible refine WO.nil ?_ | with_reducible refine WC.skip ?_ | with_reducible refine WC.ret ?_ | with_reducible refine WC.exit ?_ | ((with_reducible refine WC.id ?_); first | refine WC.condT rfl ?_ | refine WC.condF rfl ?_)
        | ((with_reducible refine WQ.cid ?_); first | refine WQ.xG ?_ | refine WQ.pure ?_)
        | ((with_reducible refine WQ.gid ?_); first | refine WQ.on rfl ?_ | refine WQ.offN rfl rfl ?_)
        | ((with_reducible refine WO.cid ?_); first
          | refine WO.x ?_ | (refine op_alloc hg ?_; clear hg; intro b w hg; refine WO.fr ?_) | (refine op_boxA hg ?_; clear hg; intro b w hg; refine WO.fr ?_) | (refine op_box1 hg ?_; clear hg; intro b w hg; refine WO.fr ?_)
          | (refine op_store hg ?_; clear hg; intro w hg; refine WO.fr ?_; try simp only [List.set_cons_succ, List.set_cons_zero] at hg)
          | (refine op_storeA hg ?_; clear hg; intro w hg; refine WO.fr ?_; try simp only [over, List.take_zero, List.take_succ_cons, List.drop_zero, List.drop_succ_cons, List.nil_append, List.cons_append, List.append_nil, List.length_cons, List.length_nil, Nat.zero_add, Nat.reduceAdd, splice, cellsL] at hg)
          | (refine op_pure hg ?_; clear hg; intro w hg; refine WO.fr ?_) | (refine op_pureB hg ?_; clear hg; intro w hg c hc; cases c <;> refine WO.fr ?_))
        | ((with_reducible refine WO.gid ?_); first | refine WO.on rfl ?_ | refine WO.offN rfl rfl ?_))
      have s1 : ∀ {w : World}, (w.heap[pl]? = some (.cells [.slice ae L.events.length ce, .slice (some ⟨bd, 0, none⟩) L.deeds.length cd, .map (some bm)].toArray 55 (0, 0)) ∧ w.heap[bd]? = some (.cells (List.toArray (A ++ ([.int .i64 d.client, .int .i64 d.op.kind, .int .i64 d.op.n, .string d.op.data, .int .i64 d.res.e, .int .i64 d.res.n, .int .i64 d.res.k1, .int .i64 d.res.k2, .int .i64 d.res.k3, .int .i64 d.res.k4, .int .i64 d.res.k5, .int .i64 d.res.k6, .int .i64 2] ++ B))) 61 (0, 0))) → w.cell? ⟨pl, 2, none⟩ = some (.map (some bm)) := fun h => heap_cell h.1 rfl
      have s2 : ∀ {w : World}, (w.heap[pl]? = some (.cells [.slice ae L.events.length ce, .slice (some ⟨bd, 0, none⟩) L.deeds.length cd, .map (some bm)].toArray 55 (0, 0)) ∧ w.heap[bd]? = some (.cells (List.toArray (A ++ ([.int .i64 d.client, .int .i64 d.op.kind, .int .i64 d.op.n, .string d.op.data, .int .i64 d.res.e, .int .i64 d.res.n, .int .i64 d.res.k1, .int .i64 d.res.k2, .int .i64 d.res.k3, .int .i64 d.res.k4, .int .i64 d.res.k5, .int .i64 d.res.k6, .int .i64 2] ++ B))) 61 (0, 0))) → w.cell? ⟨bd, i * 13, none⟩ = some (.int .i64 d.client) := fun h => heap_cell h.2 (mid_get0 hA rfl)
      refine WC.drawn (fun w => w.heap[pl]? = some (.cells [.slice ae L.events.length ce, .slice (some ⟨bd, 0, none⟩) L.deeds.length cd, .map (some bm)].toArray 55 (0, 0)) ∧ w.heap[bd]? = some (.cells (List.toArray (A ++ ([.int .i64 d.client, .int .i64 d.op.kind, .int .i64 d.op.n, .string d.op.data, .int .i64 d.res.e, .int .i64 d.res.n, .int .i64 d.res.k1, .int .i64 d.res.k2, .int .i64 d.res.k3, .int .i64 d.res.k4, .int .i64 d.res.k5, .int .i64 d.res.k6, .int .i64 2] ++ B))) 61 (0, 0))) [8] hg ?_
      clear hg
      intro w hg
      have hS : (fun w => w.heap[pl]? = some (.cells [.slice ae L.events.length ce, .slice (some ⟨bd, 0, none⟩) L.deeds.length cd, .map (some bm)].toArray 55 (0, 0)) ∧ w.heap[bd]? = some (.cells (List.toArray (A ++ ([.int .i64 d.client, .int .i64 d.op.kind, .int .i64 d.op.n, .string d.op.data, .int .i64 d.res.e, .int .i64 d.res.n, .int .i64 d.res.k1, .int .i64 d.res.k2, .int .i64 d.res.k3, .int .i64 d.res.k4, .int .i64 d.res.k5, .int .i64 d.res.k6, .int .i64 2] ++ B))) 61 (0, 0))) w := ⟨hg.own (pl, .cells [.slice ae L.events.length ce, .slice (some ⟨bd, 0, none⟩) L.deeds.length cd, .map (some bm)].toArray 55 (0, 0)) (by simp), hg.own (bd, .cells (List.toArray (A ++ ([.int .i64 d.client, .int .i64 d.op.kind, .int .i64 d.op.n, .string d.op.data, .int .i64 d.res.e, .int .i64 d.res.n, .int .i64 d.res.k1, .int .i64 d.res.k2, .int .i64 d.res.k3, .int .i64 d.res.k4, .int .i64 d.res.k5, .int .i64 d.res.k6, .int .i64 2] ++ B))) 61 (0, 0)) (by simp [Deed.enc])⟩
      refine WA.pass 0 hS ?_
      refine WA.pass 1 hS ?_
      refine WA.pass 2 hS ?_
      refine WA.pass 4 hS ?_
      refine WA.pass 5 hS ?_
      refine WA.pass 6 hS ?_
      refine WA.passS 3 hS ?_
      refine WA.passS 7 hS ?_
      refine WA.only 8 ?_
      refine op_delete (hg.front 5) hm ?_
      clear hg hS
      intro es' w hm' hg
      refine WO.fr ?_
      refine WO.nilL ?_
      refine WA.nil ?_
      clear s1 s2
      repeat' (first
        | with_reducible refine QX.next ?_ | with_reducible refine WC.seq ?_ | with_reducible refine WC.region ?_ | with_reducible refine WC.block ?_ | with_reducible refine QX.bnorm ?_ | with_reducible refine QX.bret ?_ | with_reducible refine QX.ret ?_ | with_reducible refine QX.exit ?_ | with_reducible refine QX.bsame ?_ | with_reducible refine QX.bother rfl ?_
        | with_reducible refine WO.nil ?_ | with_reducible refine WC.skip ?_ | with_reducible refine WC.ret ?_ | with_reducible refine WC.exit ?_ | ((with_reducible refine WC.id ?_); first | refine WC.condT rfl ?_ | refine WC.condF rfl ?_)
        | ((with_reducible refine WQ.cid ?_); first | refine WQ.xG ?_ | refine WQ.pure ?_)
        | ((with_reducible refine WQ.gid ?_); first | refine WQ.on rfl ?_ | refine WQ.offN rfl rfl ?_)
        | ((with_reducible refine WO.cid ?_); first
          | refine WO.x ?_ | (refine op_alloc hg ?_; clear hg; intro b w hg; refine WO.fr ?_) | (refine op_boxA hg ?_; clear hg; intro b w hg; refine WO.fr ?_) | (refine op_box1 hg ?_; clear hg; intro b w hg; refine WO.fr ?_)
          | (refine op_store hg ?_; clear hg; intro w hg; refine WO.fr ?_; try simp only [List.set_cons_succ, List.set_cons_zero] at hg)
          | (refine op_storeA hg ?_; clear hg; intro w hg; refine WO.fr ?_; try simp only [over, List.take_zero, List.take_succ_cons, List.drop_zero, List.drop_succ_cons, List.nil_append, List.cons_append, List.append_nil, List.length_cons, List.length_nil, Nat.zero_add, Nat.reduceAdd, splice, cellsL] at hg)
          | (refine op_pure hg ?_; clear hg; intro w hg; refine WO.fr ?_) | (refine op_pureB hg ?_; clear hg; intro w hg c hc; cases c <;> refine WO.fr ?_))
        | ((with_reducible refine WO.gid ?_); first | refine WO.on rfl ?_ | refine WO.offN rfl rfl ?_))
      rename_i b5 _ _ _ _ _ _
      replace hset := hset { d with how := 2 }
      have t1 : ∀ {w : World}, (w.heap[bd]? = some (.cells (List.toArray (A ++ ([.int .i64 d.client, .int .i64 d.op.kind, .int .i64 d.op.n, .string d.op.data, .int .i64 d.res.e, .int .i64 d.res.n, .int .i64 d.res.k1, .int .i64 d.res.k2, .int .i64 d.res.k3, .int .i64 d.res.k4, .int .i64 d.res.k5, .int .i64 d.res.k6, .int .i64 2] ++ B))) 61 (0, 0)) ∧ w.heap[b5]? = some (.cells (List.toArray [.int .i64 r.e, .int .i64 r.n, .int .i64 r.k1, .int .i64 r.k2, .int .i64 r.k3, .int .i64 r.k4, .int .i64 r.k5, .int .i64 r.k6]) 37 (0, 0))) → Cells w ⟨bd, i * 13, none⟩ [.int .i64 d.client, .int .i64 d.op.kind, .int .i64 d.op.n, .string d.op.data, .int .i64 d.res.e, .int .i64 d.res.n, .int .i64 d.res.k1, .int .i64 d.res.k2, .int .i64 d.res.k3, .int .i64 d.res.k4, .int .i64 d.res.k5, .int .i64 d.res.k6, .int .i64 2] := fun h => heap_cells h.1 (mid_rows hA rfl)
      have t2 : ∀ {w : World}, (w.heap[bd]? = some (.cells (List.toArray (A ++ ([.int .i64 d.client, .int .i64 d.op.kind, .int .i64 d.op.n, .string d.op.data, .int .i64 d.res.e, .int .i64 d.res.n, .int .i64 d.res.k1, .int .i64 d.res.k2, .int .i64 d.res.k3, .int .i64 d.res.k4, .int .i64 d.res.k5, .int .i64 d.res.k6, .int .i64 2] ++ B))) 61 (0, 0)) ∧ w.heap[b5]? = some (.cells (List.toArray [.int .i64 r.e, .int .i64 r.n, .int .i64 r.k1, .int .i64 r.k2, .int .i64 r.k3, .int .i64 r.k4, .int .i64 r.k5, .int .i64 r.k6]) 37 (0, 0))) → Cells w ⟨b5, 0, none⟩ [.int .i64 r.e, .int .i64 r.n, .int .i64 r.k1, .int .i64 r.k2, .int .i64 r.k3, .int .i64 r.k4, .int .i64 r.k5, .int .i64 r.k6] := fun h => heap_cells h.2 rfl
      refine WC.drawn (fun w => w.heap[bd]? = some (.cells (List.toArray (A ++ ([.int .i64 d.client, .int .i64 d.op.kind, .int .i64 d.op.n, .string d.op.data, .int .i64 d.res.e, .int .i64 d.res.n, .int .i64 d.res.k1, .int .i64 d.res.k2, .int .i64 d.res.k3, .int .i64 d.res.k4, .int .i64 d.res.k5, .int .i64 d.res.k6, .int .i64 2] ++ B))) 61 (0, 0)) ∧ w.heap[b5]? = some (.cells (List.toArray [.int .i64 r.e, .int .i64 r.n, .int .i64 r.k1, .int .i64 r.k2, .int .i64 r.k3, .int .i64 r.k4, .int .i64 r.k5, .int .i64 r.k6]) 37 (0, 0))) [6] hg ?_
      clear hg
      intro w hg
      have hS : (fun w => w.heap[bd]? = some (.cells (List.toArray (A ++ ([.int .i64 d.client, .int .i64 d.op.kind, .int .i64 d.op.n, .string d.op.data, .int .i64 d.res.e, .int .i64 d.res.n, .int .i64 d.res.k1, .int .i64 d.res.k2, .int .i64 d.res.k3, .int .i64 d.res.k4, .int .i64 d.res.k5, .int .i64 d.res.k6, .int .i64 2] ++ B))) 61 (0, 0)) ∧ w.heap[b5]? = some (.cells (List.toArray [.int .i64 r.e, .int .i64 r.n, .int .i64 r.k1, .int .i64 r.k2, .int .i64 r.k3, .int .i64 r.k4, .int .i64 r.k5, .int .i64 r.k6]) 37 (0, 0))) w := ⟨hg.own (bd, .cells (List.toArray (A ++ ([.int .i64 d.client, .int .i64 d.op.kind, .int .i64 d.op.n, .string d.op.data, .int .i64 d.res.e, .int .i64 d.res.n, .int .i64 d.res.k1, .int .i64 d.res.k2, .int .i64 d.res.k3, .int .i64 d.res.k4, .int .i64 d.res.k5, .int .i64 d.res.k6, .int .i64 2] ++ B))) 61 (0, 0)) (by simp [Deed.enc]), hg.own (b5, _) (by simp)⟩
      refine WA.pass 0 hS ?_
      refine WA.pass 1 hS ?_
      refine WA.pass 2 hS ?_
      refine WA.pass 3 hS ?_
      refine WA.passS 4 hS ?_
      refine WA.passS 5 hS ?_
      refine WA.only 6 ?_
      clear hS
      have hl1 : L.deeds.length = (L.deeds.set i { d with how := 2 }).length := by simp
      replace hg := (((hg.front 5).front 5).front 5).unfour
      rw [hl1] at hg hset
      refine op_call (put_spec (L := ⟨L.events, L.deeds.set i { d with how := 2 }, mdel L.of d.client⟩) 3 i { d with how := 2 } r hg.owns1 ⟨_, fe, _, _, rfl, .mk (L := ⟨L.events, L.deeds.set i { d with how := 2 }, mdel L.of d.client⟩) he hset hm'⟩ (by show L.events.length ≤ 1000; omega)) ?_
      rintro e w2 ⟨h', ⟨v, rfl⟩, hL', hg3⟩
      replace hg := hg.call1 hg3
      clear hg3
      refine ⟨_, rfl, ?_⟩
      refine WO.fr ?_
      refine WO.nilL ?_
      refine WA.nil ?_
      repeat' (first
        | with_reducible refine QX.next ?_ | with_reducible refine WC.seq ?_ | with_reducible refine WC.region ?_ | with_reducible refine WC.block ?_ | with_reducible refine QX.bnorm ?_ | with_reducible refine QX.bret ?_ | with_reducible refine QX.ret ?_ | with_reducible refine QX.exit ?_ | with_reducible refine QX.bsame ?_ | with_reducible refine QX.bother rfl ?_
        | with_reducible refine WO.nil ?_ | with_reducible refine WC.skip ?_ | with_reducible refine WC.ret ?_ | with_reducible refine WC.exit ?_ | ((with_reducible refine WC.id ?_); first | refine WC.condT rfl ?_ | refine WC.condF rfl ?_)
        | (refine WC.quietG hg ?_; clear hg) | ((with_reducible refine WQ.nilG ?_); intro w hg)
        | ((with_reducible refine WQ.cid ?_); first | refine WQ.xG ?_ | refine WQ.pure ?_)
        | ((with_reducible refine WQ.gid ?_); first | refine WQ.on rfl ?_ | refine WQ.offN rfl rfl ?_)
        | ((with_reducible refine WO.cid ?_); first
          | refine WO.x ?_ | (refine op_alloc hg ?_; clear hg; intro b w hg; refine WO.fr ?_) | (refine op_boxA hg ?_; clear hg; intro b w hg; refine WO.fr ?_) | (refine op_box1 hg ?_; clear hg; intro b w hg; refine WO.fr ?_)
          | (refine op_store hg ?_; clear hg; intro w hg; refine WO.fr ?_; try simp only [List.set_cons_succ, List.set_cons_zero] at hg)
          | (refine op_storeA hg ?_; clear hg; intro w hg; refine WO.fr ?_; try simp only [over, List.take_zero, List.take_succ_cons, List.drop_zero, List.drop_succ_cons, List.nil_append, List.cons_append, List.append_nil, List.length_cons, List.length_nil, Nat.zero_add, Nat.reduceAdd, splice, cellsL] at hg)
          | (refine op_pure hg ?_; clear hg; intro w hg; refine WO.fr ?_) | (refine op_pureB hg ?_; clear hg; intro w hg c hc; cases c <;> refine WO.fr ?_))
        | ((with_reducible refine WO.gid ?_); first | refine WO.on rfl ?_ | refine WO.offN rfl rfl ?_))
      exact ret1 rfl ⟨h', hg.sub (by simp), .inl ⟨by simpa [Deed.want, h1] using hr, rfl, hL'⟩⟩
    · rw [decide_eq_false hr] at e2
      refine enter Try.func14 rfl (by simp only [Try.ntmps14, List.length_cons, List.length_nil, Nat.reduceAdd, Nat.reduceSub, List.replicate_succ, List.replicate_zero, List.cons_append, List.nil_append]; exact rfl) ?_
      repeat' (first
        | with_reducible refine QX.next ?_ | with_reducible refine WC.seq ?_ | with_reducible refine WC.region ?_ | with_reducible refine WC.block ?_ | with_reducible refine QX.bnorm ?_ | with_reducible refine QX.bret ?_ | with_reducible refine QX.ret ?_ | with_reducible refine QX.exit ?_ | with_reducible refine QX.bsame ?_ | with_reducible refine QX.bother rfl ?_
        | with_reducible refine WO.nil ?_ | with_reducible refine WC.skip ?_ | with_reducible refine WC.ret ?_ | with_reducible refine WC.exit ?_ | ((with_reducible refine WC.id ?_); first | refine WC.condT rfl ?_ | refine WC.condF rfl ?_)
        | ((with_reducible refine WQ.cid ?_); first | refine WQ.xG ?_ | refine WQ.pure ?_)
        | ((with_reducible refine WQ.gid ?_); first | refine WQ.on rfl ?_ | refine WQ.offN rfl rfl ?_)
        | ((with_reducible refine WO.cid ?_); first
          | refine WO.x ?_ | (refine op_alloc hg ?_; clear hg; intro b w hg; refine WO.fr ?_) | (refine op_boxA hg ?_; clear hg; intro b w hg; refine WO.fr ?_) | (refine op_box1 hg ?_; clear hg; intro b w hg; refine WO.fr ?_)
          | (refine op_store hg ?_; clear hg; intro w hg; refine WO.fr ?_; try simp only [List.set_cons_succ, List.set_cons_zero] at hg)
          | (refine op_storeA hg ?_; clear hg; intro w hg; refine WO.fr ?_; try simp only [over, List.take_zero, List.take_succ_cons, List.drop_zero, List.drop_succ_cons, List.nil_append, List.cons_append, List.append_nil, List.length_cons, List.length_nil, Nat.zero_add, Nat.reduceAdd, splice, cellsL] at hg)
          | (refine op_pure hg ?_; clear hg; intro w hg; refine WO.fr ?_) | (refine op_pureB hg ?_; clear hg; intro w hg c hc; cases c <;> refine WO.fr ?_))
        | ((with_reducible refine WO.gid ?_); first | refine WO.on rfl ?_ | refine WO.offN rfl rfl ?_))
      exact ret1 rfl ⟨_, hg.sub (by simp), .inr ⟨by simpa [Deed.want, h1] using hr, rfl, hlog⟩⟩
end Go.Proofs.Ytlomipcjkkjhiaa
