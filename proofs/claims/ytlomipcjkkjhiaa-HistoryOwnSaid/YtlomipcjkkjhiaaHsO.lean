/- HistoryOwn. -/
import Derived.Test.YtlomipcjkkjhiaaHsV
import Derived.Test.YtlomipcjkkjhiaaHsR
namespace Go.Proofs.Ytlomipcjkkjhiaa
open Go Go.RowKit
set_option maxRecDepth 10000
set_option linter.unusedSimpArgs false
set_option linter.unusedVariables false

theorem rRight_snoc (e : Ev) : ∀ (es pre : List Ev), rRightFrom pre (es ++ [e]) = (rRightFrom pre es && followsB (pre ++ es) e)
  | [], pre => by simp [rRightFrom]
  | x :: es, pre => by
    rw [List.cons_append, rRightFrom, rRightFrom, rRight_snoc e es (pre ++ [x]), Bool.and_assoc, List.append_assoc]
    rfl
structure Good (L : LogS) : Prop where
  inv : Inv L
  right : rRightFrom [] L.events = true
structure Step (L L' : LogS) : Prop where
  good : Good L → Good L'
  pre : L.events <+: L'.events
  le : L'.events.length ≤ L.events.length + 1 ∧ L'.deeds.length ≤ L.deeds.length + 1
theorem Step.same (L : LogS) : Step L L := ⟨id, List.prefix_refl _, by omega⟩
theorem Step.take {L : LogS} (hI : Inv L) (e : Ev) (ht : L.took e = true) : Step L (L.take e) := by
  obtain ⟨h1, h2, h3⟩ := hI.took e
  refine ⟨fun h => ⟨h3, ?_⟩, ?_, take_len L e⟩
  · rw [h2 ht, rRight_snoc, h.right, List.nil_append, ← h1, ht]; rfl
  · rw [h2 ht]; exact List.prefix_append _ _
theorem Step.inv {L : LogS} (h : Inv L) (c : Int) (o : AOp) (hm : mget L.of c = none) : Step L (L.inv c o) := by
  have htk : L.take ⟨1, L.deeds.length, c, o, Res.none⟩ = L.inv c o := by simp [LogS.take, hm]
  rw [← htk]
  refine Step.take h _ ?_
  simp [LogS.took, htk, LogS.inv]
theorem Step.com {L : LogS} (h : Inv L) (i : Nat) (d : Deed) (r : Res) (hat : L.at i = some d) (h0 : d.how = 0) : Step L (L.com i d r) := by
  have htk : L.take ⟨2, i, d.client, d.op, r⟩ = L.com i d r := by simp [LogS.take, hat, h0]
  rw [← htk]
  refine Step.take h _ ?_
  simp [LogS.took, htk, LogS.com]
theorem Step.res {L : LogS} (h : Inv L) (i : Nat) (d : Deed) (r : Res) (hat : L.at i = some d) (hw : r = d.want) : Step L (L.res i d r) := by
  have htk : L.take ⟨3, i, d.client, d.op, r⟩ = L.res i d r := by simp [LogS.take, hat, hw]
  rw [← htk]
  refine Step.take h _ ?_
  simp [LogS.took, htk, LogS.res]

theorem Invoke_any {pl : Nat} {L : LogS} {h : Frag} {w0 : World} (c : Int) (o : AOp) (hO : Owns w0 h) (hL : LogF pl L h) (hI : Inv L) (hn : L.events.length ≤ 999 ∧ L.deeds.length ≤ 999) :
    Calls Try.prog 10 #[.pointer (some ⟨pl, 0, none⟩), .int .i64 c, .agg o.enc.toArray] w0 fun e w' => ∃ v h' L', e = .returned v ∧ LogF pl L' h' ∧ Step L L' ∧ Goes w0 (keys h) [h'] w' := by
  refine (Invoke_spec c o hO hL hn).mono ?_
  rintro e w' ⟨h', hg, ⟨hm, hL', rfl⟩ | ⟨hm, hL', rfl⟩⟩
  · exact ⟨_, h', _, rfl, hL', .inv hI c o hm, hg⟩
  · exact ⟨_, h', _, rfl, hL', .same L, hg⟩
theorem Commit_any {pl : Nat} {L : LogS} {h : Frag} {w0 : World} (id : Int) (r : Res) (hO : Owns w0 h) (hL : LogF pl L h) (hI : Inv L) (hn : L.events.length ≤ 999 ∧ L.deeds.length ≤ 999) :
    Calls Try.prog 12 #[.pointer (some ⟨pl, 0, none⟩), .int .i64 id, .agg r.enc.toArray] w0 fun e w' => ∃ v h' L', e = .returned v ∧ LogF pl L' h' ∧ Step L L' ∧ Goes w0 (keys h) [h'] w' := by
  by_cases hy : ∃ d, L.at id = some d ∧ d.how = 0
  · obtain ⟨d, hat, h0⟩ := hy
    obtain ⟨i, rfl, hd, _⟩ := LogS.at_some hat
    refine (Commit_yes i d r hO hL hn hd h0).mono ?_
    rintro e w' ⟨h', rfl, hL', hg⟩
    exact ⟨_, h', _, rfl, hL', .com hI i d r hat h0, hg⟩
  · refine (Commit_no id r hO hL hn (fun d hd h0 => hy ⟨d, hd, h0⟩)).mono ?_
    rintro e w' ⟨rfl, hg⟩
    exact ⟨_, h, _, rfl, hL, .same L, hg⟩
theorem Respond_any {pl : Nat} {L : LogS} {h : Frag} {w0 : World} (id : Int) (r : Res) (hO : Owns w0 h) (hL : LogF pl L h) (hI : Inv L) (hn : L.events.length ≤ 999 ∧ L.deeds.length ≤ 999) :
    Calls Try.prog 14 #[.pointer (some ⟨pl, 0, none⟩), .int .i64 id, .agg r.enc.toArray] w0 fun e w' => ∃ v h' L', e = .returned v ∧ LogF pl L' h' ∧ Step L L' ∧ Goes w0 (keys h) [h'] w' := by
  cases hat : L.at id with
  | none =>
    refine (Respond_none id r hO hL hn hat).mono ?_
    rintro e w' ⟨rfl, hg⟩
    exact ⟨_, h, _, rfl, hL, .same L, hg⟩
  | some d =>
    obtain ⟨i, rfl, hd, h2⟩ := LogS.at_some hat
    refine (Respond_some i d r hO hL hn hd h2).mono ?_
    rintro e w' ⟨h', hg, ⟨hw, rfl, hL'⟩ | ⟨hw, rfl, hL'⟩⟩
    · exact ⟨_, h', _, rfl, hL', .res hI i d r hat hw, hg⟩
    · exact ⟨_, h', _, rfl, hL', .same L, hg⟩

theorem Inv.of_open {L : LogS} (h : Inv L) (c id : Int) (hm : mget L.of c = some id) : id ∈ opnL L.events L.events := by
  obtain ⟨i, d, rfl, hd, _, h2⟩ := (h.i5 c id).1 hm
  have h1 := h.i1 i
  rw [hd] at h1
  simp only [Option.map_some] at h1
  have hmem := List.mem_of_find?_eq_some h1
  have h3 : L.events.find? (isEv 3 i) = none := by
    cases hf : L.events.find? (isEv 3 i) with
    | none => rfl
    | some v =>
      obtain ⟨d', hd', h2'⟩ := (h.i3 i).1 (by rw [hf]; rfl)
      rw [hd] at hd'
      obtain rfl := Option.some.inj hd'
      exact absurd h2' h2
  exact List.mem_map.2 ⟨_, List.mem_filter.2 ⟨hmem, by simp [opnB, h3]⟩, rfl⟩

/-! ### Logs that nobody made -/
theorem Invoke_nil (w : World) (c : Int) (o : AOp) : Calls Try.prog 10 #[.pointer none, .int .i64 c, .agg o.enc.toArray] w fun e w' => e = .returned (.tuple #[.int .i64 0, .bool false]) ∧ Goes w [] [] w' := by
  have hg := Goes.refl w
  have p1 := made_nil
  simp only [AOp.enc]
  refine enter Try.func10 rfl (by simp only [Try.ntmps10, List.length_cons, List.length_nil, Nat.reduceAdd, Nat.reduceSub, List.replicate_succ, List.replicate_zero, List.cons_append, List.nil_append]; exact rfl) ?_
  repeat' (first
    | with_reducible refine QX.next ?_ | with_reducible refine WC.seq ?_ | with_reducible refine WC.region ?_ | with_reducible refine WC.block ?_ | with_reducible refine QX.bnorm ?_ | with_reducible refine QX.bret ?_ | with_reducible refine QX.ret ?_ | with_reducible refine QX.exit ?_ | with_reducible refine QX.bsame ?_ | with_reducible refine QX.bother rfl ?_
    | with_reducible refine WO.nil ?_ | with_reducible refine WC.skip ?_ | with_reducible refine WC.ret ?_ | with_reducible refine WC.exit ?_ | ((with_reducible refine WC.id ?_); first | refine WC.condT rfl ?_ | refine WC.condF rfl ?_)
    | (refine WC.quietG hg ?_; clear hg) | ((with_reducible refine WQ.nilG ?_); intro w hg)
    | ((with_reducible refine WQ.cid ?_); first | refine WQ.xG ?_ | refine WQ.pure ?_)
    | ((with_reducible refine WQ.gid ?_); first | refine WQ.on rfl ?_ | refine WQ.offN rfl rfl ?_)
    | ((with_reducible refine WO.cid ?_); first
      | refine WO.x ?_ | (refine op_alloc hg ?_; clear hg; intro b w hg; refine WO.fr ?_) | (refine op_boxA hg ?_; clear hg; intro b w hg; refine WO.fr ?_) | (refine op_box1 hg ?_; clear hg; intro b w hg; refine WO.fr ?_)
      | (refine op_store hg ?_; clear hg; intro w hg; refine WO.fr ?_; try simp only [List.set_cons_succ, List.set_cons_zero] at hg)
      | (refine op_storeA hg ?_; clear hg; intro w hg; refine WO.fr ?_; try simp only [over, List.take_zero, List.take_succ_cons, List.drop_zero, List.drop_succ_cons, List.nil_append, List.cons_append, List.append_nil, List.length_cons, List.length_nil, Nat.zero_add, Nat.reduceAdd, splice, cellsL] at hg)
      | (refine op_pure hg ?_; clear hg; intro w hg; refine WO.fr ?_) | (refine op_pureB hg ?_; clear hg; intro w hg c hc; cases c <;> refine WO.fr ?_))
    | ((with_reducible refine WO.gid ?_); first | refine WO.on rfl ?_ | refine WO.offN rfl rfl ?_))
  exact ret2 rfl ⟨rfl, hg.drop⟩
theorem Invoke_zero {pl : Nat} {w : World} (c : Int) (o : AOp) (hc : w.cell? ⟨pl, 2, none⟩ = some (.map none)) : Calls Try.prog 10 #[.pointer (some ⟨pl, 0, none⟩), .int .i64 c, .agg o.enc.toArray] w fun e w' => e = .returned (.tuple #[.int .i64 0, .bool false]) ∧ Goes w [] [] w' := by
  have hg := Goes.refl w
  have p1 : ∀ {w' Fs}, Goes w [] Fs w' → Calls Try.prog 31 #[.pointer (some ⟨pl, 0, none⟩)] w' _ := fun h => made_zero (h.cellOld0 hc)
  simp only [AOp.enc]
  refine enter Try.func10 rfl (by simp only [Try.ntmps10, List.length_cons, List.length_nil, Nat.reduceAdd, Nat.reduceSub, List.replicate_succ, List.replicate_zero, List.cons_append, List.nil_append]; exact rfl) ?_
  repeat' (first
    | with_reducible refine QX.next ?_ | with_reducible refine WC.seq ?_ | with_reducible refine WC.region ?_ | with_reducible refine WC.block ?_ | with_reducible refine QX.bnorm ?_ | with_reducible refine QX.bret ?_ | with_reducible refine QX.ret ?_ | with_reducible refine QX.exit ?_ | with_reducible refine QX.bsame ?_ | with_reducible refine QX.bother rfl ?_
    | with_reducible refine WO.nil ?_ | with_reducible refine WC.skip ?_ | with_reducible refine WC.ret ?_ | with_reducible refine WC.exit ?_ | ((with_reducible refine WC.id ?_); first | refine WC.condT rfl ?_ | refine WC.condF rfl ?_)
    | (refine WC.quietG hg ?_; clear hg) | ((with_reducible refine WQ.nilG ?_); intro w hg)
    | ((with_reducible refine WQ.cid ?_); first | refine WQ.xG ?_ | refine WQ.pure ?_)
    | ((with_reducible refine WQ.gid ?_); first | refine WQ.on rfl ?_ | refine WQ.offN rfl rfl ?_)
    | ((with_reducible refine WO.cid ?_); first
      | refine WO.x ?_ | (refine op_alloc hg ?_; clear hg; intro b w hg; refine WO.fr ?_) | (refine op_boxA hg ?_; clear hg; intro b w hg; refine WO.fr ?_) | (refine op_box1 hg ?_; clear hg; intro b w hg; refine WO.fr ?_)
      | (refine op_store hg ?_; clear hg; intro w hg; refine WO.fr ?_; try simp only [List.set_cons_succ, List.set_cons_zero] at hg)
      | (refine op_storeA hg ?_; clear hg; intro w hg; refine WO.fr ?_; try simp only [over, List.take_zero, List.take_succ_cons, List.drop_zero, List.drop_succ_cons, List.nil_append, List.cons_append, List.append_nil, List.length_cons, List.length_nil, Nat.zero_add, Nat.reduceAdd, splice, cellsL] at hg)
      | (refine op_pure hg ?_; clear hg; intro w hg; refine WO.fr ?_) | (refine op_pureB hg ?_; clear hg; intro w hg c hc; cases c <;> refine WO.fr ?_))
    | ((with_reducible refine WO.gid ?_); first | refine WO.on rfl ?_ | refine WO.offN rfl rfl ?_))
  exact ret2 rfl ⟨rfl, hg.drop⟩
theorem Of_zero {pl : Nat} {w : World} (c : Int) (hc : w.cell? ⟨pl, 2, none⟩ = some (.map none)) : Calls Try.prog 15 #[.pointer (some ⟨pl, 0, none⟩), .int .i64 c] w fun e w' => e = .returned (.tuple #[.int .i64 0, .bool false]) ∧ Goes w [] [] w' := by
  have hg := Goes.refl w
  have p1 : ∀ {w' Fs}, Goes w [] Fs w' → Calls Try.prog 31 #[.pointer (some ⟨pl, 0, none⟩)] w' _ := fun h => made_zero (h.cellOld0 hc)
  refine enter Try.func15 rfl (by simp only [Try.ntmps15, List.length_cons, List.length_nil, Nat.reduceAdd, Nat.reduceSub, List.replicate_succ, List.replicate_zero, List.cons_append, List.nil_append]; exact rfl) ?_
  repeat' (first
    | with_reducible refine QX.next ?_ | with_reducible refine WC.seq ?_ | with_reducible refine WC.region ?_ | with_reducible refine WC.block ?_ | with_reducible refine QX.bnorm ?_ | with_reducible refine QX.bret ?_ | with_reducible refine QX.ret ?_ | with_reducible refine QX.exit ?_ | with_reducible refine QX.bsame ?_ | with_reducible refine QX.bother rfl ?_
    | with_reducible refine WO.nil ?_ | with_reducible refine WC.skip ?_ | with_reducible refine WC.ret ?_ | with_reducible refine WC.exit ?_ | ((with_reducible refine WC.id ?_); first | refine WC.condT rfl ?_ | refine WC.condF rfl ?_)
    | (refine WC.quietG hg ?_; clear hg) | ((with_reducible refine WQ.nilG ?_); intro w hg)
    | ((with_reducible refine WQ.cid ?_); first | refine WQ.xG ?_ | refine WQ.pure ?_)
    | ((with_reducible refine WQ.gid ?_); first | refine WQ.on rfl ?_ | refine WQ.offN rfl rfl ?_)
    | ((with_reducible refine WO.cid ?_); first
      | refine WO.x ?_ | (refine op_alloc hg ?_; clear hg; intro b w hg; refine WO.fr ?_) | (refine op_boxA hg ?_; clear hg; intro b w hg; refine WO.fr ?_) | (refine op_box1 hg ?_; clear hg; intro b w hg; refine WO.fr ?_)
      | (refine op_store hg ?_; clear hg; intro w hg; refine WO.fr ?_; try simp only [List.set_cons_succ, List.set_cons_zero] at hg)
      | (refine op_storeA hg ?_; clear hg; intro w hg; refine WO.fr ?_; try simp only [over, List.take_zero, List.take_succ_cons, List.drop_zero, List.drop_succ_cons, List.nil_append, List.cons_append, List.append_nil, List.length_cons, List.length_nil, Nat.zero_add, Nat.reduceAdd, splice, cellsL] at hg)
      | (refine op_pure hg ?_; clear hg; intro w hg; refine WO.fr ?_) | (refine op_pureB hg ?_; clear hg; intro w hg c hc; cases c <;> refine WO.fr ?_))
    | ((with_reducible refine WO.gid ?_); first | refine WO.on rfl ?_ | refine WO.offN rfl rfl ?_))
  exact ret2 rfl ⟨rfl, hg.drop⟩
theorem deed_nil (w : World) (id : Int) : Calls Try.prog 34 #[.pointer none, .int .i64 id] w fun e w' => e = .returned (.tuple #[.pointer none, .bool false]) ∧ Goes w [] [] w' := by
  have hg := Goes.refl w
  have p1 := made_nil
  refine enter Try.func34 rfl (by simp only [Try.ntmps34, List.length_cons, List.length_nil, Nat.reduceAdd, Nat.reduceSub, List.replicate_succ, List.replicate_zero, List.cons_append, List.nil_append]; exact rfl) ?_
  repeat' (first
    | with_reducible refine QX.next ?_ | with_reducible refine WC.seq ?_ | with_reducible refine WC.region ?_ | with_reducible refine WC.block ?_ | with_reducible refine QX.bnorm ?_ | with_reducible refine QX.bret ?_ | with_reducible refine QX.ret ?_ | with_reducible refine QX.exit ?_ | with_reducible refine QX.bsame ?_ | with_reducible refine QX.bother rfl ?_
    | with_reducible refine WO.nil ?_ | with_reducible refine WC.skip ?_ | with_reducible refine WC.ret ?_ | with_reducible refine WC.exit ?_ | ((with_reducible refine WC.id ?_); first | refine WC.condT rfl ?_ | refine WC.condF rfl ?_)
    | (refine WC.quietG hg ?_; clear hg) | ((with_reducible refine WQ.nilG ?_); intro w hg)
    | ((with_reducible refine WQ.cid ?_); first | refine WQ.xG ?_ | refine WQ.pure ?_)
    | ((with_reducible refine WQ.gid ?_); first | refine WQ.on rfl ?_ | refine WQ.offN rfl rfl ?_)
    | ((with_reducible refine WO.cid ?_); first
      | refine WO.x ?_ | (refine op_alloc hg ?_; clear hg; intro b w hg; refine WO.fr ?_) | (refine op_boxA hg ?_; clear hg; intro b w hg; refine WO.fr ?_) | (refine op_box1 hg ?_; clear hg; intro b w hg; refine WO.fr ?_)
      | (refine op_store hg ?_; clear hg; intro w hg; refine WO.fr ?_; try simp only [List.set_cons_succ, List.set_cons_zero] at hg)
      | (refine op_storeA hg ?_; clear hg; intro w hg; refine WO.fr ?_; try simp only [over, List.take_zero, List.take_succ_cons, List.drop_zero, List.drop_succ_cons, List.nil_append, List.cons_append, List.append_nil, List.length_cons, List.length_nil, Nat.zero_add, Nat.reduceAdd, splice, cellsL] at hg)
      | (refine op_pure hg ?_; clear hg; intro w hg; refine WO.fr ?_) | (refine op_pureB hg ?_; clear hg; intro w hg c hc; cases c <;> refine WO.fr ?_))
    | ((with_reducible refine WO.gid ?_); first | refine WO.on rfl ?_ | refine WO.offN rfl rfl ?_))
  exact ret2 rfl ⟨rfl, hg.drop⟩
theorem deed_zero {pl : Nat} {w : World} (id : Int) (hc : w.cell? ⟨pl, 2, none⟩ = some (.map none)) : Calls Try.prog 34 #[.pointer (some ⟨pl, 0, none⟩), .int .i64 id] w fun e w' => e = .returned (.tuple #[.pointer none, .bool false]) ∧ Goes w [] [] w' := by
  have hg := Goes.refl w
  have p1 : ∀ {w' Fs}, Goes w [] Fs w' → Calls Try.prog 31 #[.pointer (some ⟨pl, 0, none⟩)] w' _ := fun h => made_zero (h.cellOld0 hc)
  refine enter Try.func34 rfl (by simp only [Try.ntmps34, List.length_cons, List.length_nil, Nat.reduceAdd, Nat.reduceSub, List.replicate_succ, List.replicate_zero, List.cons_append, List.nil_append]; exact rfl) ?_
  repeat' (first
    | with_reducible refine QX.next ?_ | with_reducible refine WC.seq ?_ | with_reducible refine WC.region ?_ | with_reducible refine WC.block ?_ | with_reducible refine QX.bnorm ?_ | with_reducible refine QX.bret ?_ | with_reducible refine QX.ret ?_ | with_reducible refine QX.exit ?_ | with_reducible refine QX.bsame ?_ | with_reducible refine QX.bother rfl ?_
    | with_reducible refine WO.nil ?_ | with_reducible refine WC.skip ?_ | with_reducible refine WC.ret ?_ | with_reducible refine WC.exit ?_ | ((with_reducible refine WC.id ?_); first | refine WC.condT rfl ?_ | refine WC.condF rfl ?_)
    | (refine WC.quietG hg ?_; clear hg) | ((with_reducible refine WQ.nilG ?_); intro w hg)
    | ((with_reducible refine WQ.cid ?_); first | refine WQ.xG ?_ | refine WQ.pure ?_)
    | ((with_reducible refine WQ.gid ?_); first | refine WQ.on rfl ?_ | refine WQ.offN rfl rfl ?_)
    | ((with_reducible refine WO.cid ?_); first
      | refine WO.x ?_ | (refine op_alloc hg ?_; clear hg; intro b w hg; refine WO.fr ?_) | (refine op_boxA hg ?_; clear hg; intro b w hg; refine WO.fr ?_) | (refine op_box1 hg ?_; clear hg; intro b w hg; refine WO.fr ?_)
      | (refine op_store hg ?_; clear hg; intro w hg; refine WO.fr ?_; try simp only [List.set_cons_succ, List.set_cons_zero] at hg)
      | (refine op_storeA hg ?_; clear hg; intro w hg; refine WO.fr ?_; try simp only [over, List.take_zero, List.take_succ_cons, List.drop_zero, List.drop_succ_cons, List.nil_append, List.cons_append, List.append_nil, List.length_cons, List.length_nil, Nat.zero_add, Nat.reduceAdd, splice, cellsL] at hg)
      | (refine op_pure hg ?_; clear hg; intro w hg; refine WO.fr ?_) | (refine op_pureB hg ?_; clear hg; intro w hg c hc; cases c <;> refine WO.fr ?_))
    | ((with_reducible refine WO.gid ?_); first | refine WO.on rfl ?_ | refine WO.offN rfl rfl ?_))
  exact ret2 rfl ⟨rfl, hg.drop⟩
theorem Commit_nil (w : World) (id : Int) (r : Res) : Calls Try.prog 12 #[.pointer none, .int .i64 id, .agg r.enc.toArray] w fun e w' => e = .returned (.bool false) ∧ Goes w [] [] w' := by
  have hg := Goes.refl w
  have p1 := deed_nil
  simp only [Res.enc]
  refine enter Try.func12 rfl (by simp only [Try.ntmps12, List.length_cons, List.length_nil, Nat.reduceAdd, Nat.reduceSub, List.replicate_succ, List.replicate_zero, List.cons_append, List.nil_append]; exact rfl) ?_
  repeat' (first
    | with_reducible refine QX.next ?_ | with_reducible refine WC.seq ?_ | with_reducible refine WC.region ?_ | with_reducible refine WC.block ?_ | with_reducible refine QX.bnorm ?_ | with_reducible refine QX.bret ?_ | with_reducible refine QX.ret ?_ | with_reducible refine QX.exit ?_ | with_reducible refine QX.bsame ?_ | with_reducible refine QX.bother rfl ?_
    | with_reducible refine WO.nil ?_ | with_reducible refine WC.skip ?_ | with_reducible refine WC.ret ?_ | with_reducible refine WC.exit ?_ | ((with_reducible refine WC.id ?_); first | refine WC.condT rfl ?_ | refine WC.condF rfl ?_)
    | (refine WC.quietG hg ?_; clear hg) | ((with_reducible refine WQ.nilG ?_); intro w hg)
    | ((with_reducible refine WQ.cid ?_); first | refine WQ.xG ?_ | refine WQ.pure ?_)
    | ((with_reducible refine WQ.gid ?_); first | refine WQ.on rfl ?_ | refine WQ.offN rfl rfl ?_)
    | ((with_reducible refine WO.cid ?_); first
      | refine WO.x ?_ | (refine op_alloc hg ?_; clear hg; intro b w hg; refine WO.fr ?_) | (refine op_boxA hg ?_; clear hg; intro b w hg; refine WO.fr ?_) | (refine op_box1 hg ?_; clear hg; intro b w hg; refine WO.fr ?_)
      | (refine op_store hg ?_; clear hg; intro w hg; refine WO.fr ?_; try simp only [List.set_cons_succ, List.set_cons_zero] at hg)
      | (refine op_storeA hg ?_; clear hg; intro w hg; refine WO.fr ?_; try simp only [over, List.take_zero, List.take_succ_cons, List.drop_zero, List.drop_succ_cons, List.nil_append, List.cons_append, List.append_nil, List.length_cons, List.length_nil, Nat.zero_add, Nat.reduceAdd, splice, cellsL] at hg)
      | (refine op_pure hg ?_; clear hg; intro w hg; refine WO.fr ?_) | (refine op_pureB hg ?_; clear hg; intro w hg c hc; cases c <;> refine WO.fr ?_))
    | ((with_reducible refine WO.gid ?_); first | refine WO.on rfl ?_ | refine WO.offN rfl rfl ?_))
  exact ret1 rfl ⟨rfl, hg.drop⟩
theorem Respond_zero {pl : Nat} {w : World} (id : Int) (r : Res) (hc : w.cell? ⟨pl, 2, none⟩ = some (.map none)) : Calls Try.prog 14 #[.pointer (some ⟨pl, 0, none⟩), .int .i64 id, .agg r.enc.toArray] w fun e w' => e = .returned (.bool false) ∧ Goes w [] [] w' := by
  have hg := Goes.refl w
  have p1 : ∀ {w' Fs}, Goes w [] Fs w' → Calls Try.prog 34 #[.pointer (some ⟨pl, 0, none⟩), .int .i64 id] w' _ := fun h => deed_zero id (h.cellOld0 hc)
  simp only [Res.enc]
  refine enter Try.func14 rfl (by simp only [Try.ntmps14, List.length_cons, List.length_nil, Nat.reduceAdd, Nat.reduceSub, List.replicate_succ, List.replicate_zero, List.cons_append, List.nil_append]; exact rfl) ?_
  repeat' (first
    | with_reducible refine QX.next ?_ | with_reducible refine WC.seq ?_ | with_reducible refine WC.region ?_ | with_reducible refine WC.block ?_ | with_reducible refine QX.bnorm ?_ | with_reducible refine QX.bret ?_ | with_reducible refine QX.ret ?_ | with_reducible refine QX.exit ?_ | with_reducible refine QX.bsame ?_ | with_reducible refine QX.bother rfl ?_
    | with_reducible refine WO.nil ?_ | with_reducible refine WC.skip ?_ | with_reducible refine WC.ret ?_ | with_reducible refine WC.exit ?_ | ((with_reducible refine WC.id ?_); first | refine WC.condT rfl ?_ | refine WC.condF rfl ?_)
    | (refine WC.quietG hg ?_; clear hg) | ((with_reducible refine WQ.nilG ?_); intro w hg)
    | ((with_reducible refine WQ.cid ?_); first | refine WQ.xG ?_ | refine WQ.pure ?_)
    | ((with_reducible refine WQ.gid ?_); first | refine WQ.on rfl ?_ | refine WQ.offN rfl rfl ?_)
    | ((with_reducible refine WO.cid ?_); first
      | refine WO.x ?_ | (refine op_alloc hg ?_; clear hg; intro b w hg; refine WO.fr ?_) | (refine op_boxA hg ?_; clear hg; intro b w hg; refine WO.fr ?_) | (refine op_box1 hg ?_; clear hg; intro b w hg; refine WO.fr ?_)
      | (refine op_store hg ?_; clear hg; intro w hg; refine WO.fr ?_; try simp only [List.set_cons_succ, List.set_cons_zero] at hg)
      | (refine op_storeA hg ?_; clear hg; intro w hg; refine WO.fr ?_; try simp only [over, List.take_zero, List.take_succ_cons, List.drop_zero, List.drop_succ_cons, List.nil_append, List.cons_append, List.append_nil, List.length_cons, List.length_nil, Nat.zero_add, Nat.reduceAdd, splice, cellsL] at hg)
      | (refine op_pure hg ?_; clear hg; intro w hg; refine WO.fr ?_) | (refine op_pureB hg ?_; clear hg; intro w hg c hc; cases c <;> refine WO.fr ?_))
    | ((with_reducible refine WO.gid ?_); first | refine WO.on rfl ?_ | refine WO.offN rfl rfl ?_))
  exact ret1 rfl ⟨rfl, hg.drop⟩
theorem Len_nil (w : World) : Calls Try.prog 17 #[.pointer none] w fun e w' => e = .returned (.int .i64 0) ∧ Goes w [] [] w' := by
  have hg := Goes.refl w
  refine enter Try.func17 rfl (by simp only [Try.ntmps17, List.length_cons, List.length_nil, Nat.reduceAdd, Nat.reduceSub, List.replicate_succ, List.replicate_zero, List.cons_append, List.nil_append]; exact rfl) ?_
  repeat' (first
    | with_reducible refine QX.next ?_ | with_reducible refine WC.seq ?_ | with_reducible refine WC.region ?_ | with_reducible refine WC.block ?_ | with_reducible refine QX.bnorm ?_ | with_reducible refine QX.bret ?_ | with_reducible refine QX.ret ?_ | with_reducible refine QX.exit ?_ | with_reducible refine QX.bsame ?_ | with_reducible refine QX.bother rfl ?_
    | with_reducible refine WO.nil ?_ | with_reducible refine WC.skip ?_ | with_reducible refine WC.ret ?_ | with_reducible refine WC.exit ?_ | ((with_reducible refine WC.id ?_); first | refine WC.condT rfl ?_ | refine WC.condF rfl ?_)
    | (refine WC.quietG hg ?_; clear hg) | ((with_reducible refine WQ.nilG ?_); intro w hg)
    | ((with_reducible refine WQ.cid ?_); first | refine WQ.xG ?_ | refine WQ.pure ?_)
    | ((with_reducible refine WQ.gid ?_); first | refine WQ.on rfl ?_ | refine WQ.offN rfl rfl ?_)
    | ((with_reducible refine WO.cid ?_); first
      | refine WO.x ?_ | (refine op_alloc hg ?_; clear hg; intro b w hg; refine WO.fr ?_) | (refine op_boxA hg ?_; clear hg; intro b w hg; refine WO.fr ?_) | (refine op_box1 hg ?_; clear hg; intro b w hg; refine WO.fr ?_)
      | (refine op_store hg ?_; clear hg; intro w hg; refine WO.fr ?_; try simp only [List.set_cons_succ, List.set_cons_zero] at hg)
      | (refine op_storeA hg ?_; clear hg; intro w hg; refine WO.fr ?_; try simp only [over, List.take_zero, List.take_succ_cons, List.drop_zero, List.drop_succ_cons, List.nil_append, List.cons_append, List.append_nil, List.length_cons, List.length_nil, Nat.zero_add, Nat.reduceAdd, splice, cellsL] at hg)
      | (refine op_pure hg ?_; clear hg; intro w hg; refine WO.fr ?_) | (refine op_pureB hg ?_; clear hg; intro w hg c hc; cases c <;> refine WO.fr ?_))
    | ((with_reducible refine WO.gid ?_); first | refine WO.on rfl ?_ | refine WO.offN rfl rfl ?_))
  exact ret1 rfl ⟨rfl, hg.drop⟩
theorem Events_nil (w : World) : Calls Try.prog 19 #[.pointer none] w fun e w' => e = .returned (.slice none 0 0) ∧ Goes w [] [] w' := by
  have hg := Goes.refl w
  refine enter Try.func19 rfl (by simp only [Try.ntmps19, List.length_cons, List.length_nil, Nat.reduceAdd, Nat.reduceSub, List.replicate_succ, List.replicate_zero, List.cons_append, List.nil_append]; exact rfl) ?_
  repeat' (first
    | with_reducible refine QX.next ?_ | with_reducible refine WC.seq ?_ | with_reducible refine WC.region ?_ | with_reducible refine WC.block ?_ | with_reducible refine QX.bnorm ?_ | with_reducible refine QX.bret ?_ | with_reducible refine QX.ret ?_ | with_reducible refine QX.exit ?_ | with_reducible refine QX.bsame ?_ | with_reducible refine QX.bother rfl ?_
    | with_reducible refine WO.nil ?_ | with_reducible refine WC.skip ?_ | with_reducible refine WC.ret ?_ | with_reducible refine WC.exit ?_ | ((with_reducible refine WC.id ?_); first | refine WC.condT rfl ?_ | refine WC.condF rfl ?_)
    | (refine WC.quietG hg ?_; clear hg) | ((with_reducible refine WQ.nilG ?_); intro w hg)
    | ((with_reducible refine WQ.cid ?_); first | refine WQ.xG ?_ | refine WQ.pure ?_)
    | ((with_reducible refine WQ.gid ?_); first | refine WQ.on rfl ?_ | refine WQ.offN rfl rfl ?_)
    | ((with_reducible refine WO.cid ?_); first
      | refine WO.x ?_ | (refine op_alloc hg ?_; clear hg; intro b w hg; refine WO.fr ?_) | (refine op_boxA hg ?_; clear hg; intro b w hg; refine WO.fr ?_) | (refine op_box1 hg ?_; clear hg; intro b w hg; refine WO.fr ?_)
      | (refine op_store hg ?_; clear hg; intro w hg; refine WO.fr ?_; try simp only [List.set_cons_succ, List.set_cons_zero] at hg)
      | (refine op_storeA hg ?_; clear hg; intro w hg; refine WO.fr ?_; try simp only [over, List.take_zero, List.take_succ_cons, List.drop_zero, List.drop_succ_cons, List.nil_append, List.cons_append, List.append_nil, List.length_cons, List.length_nil, Nat.zero_add, Nat.reduceAdd, splice, cellsL] at hg)
      | (refine op_pure hg ?_; clear hg; intro w hg; refine WO.fr ?_) | (refine op_pureB hg ?_; clear hg; intro w hg c hc; cases c <;> refine WO.fr ?_))
    | ((with_reducible refine WO.gid ?_); first | refine WO.on rfl ?_ | refine WO.offN rfl rfl ?_))
  exact ret1 rfl ⟨rfl, hg.drop⟩
end Go.Proofs.Ytlomipcjkkjhiaa
