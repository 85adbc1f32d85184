/- The window's law: light, Small, play. -/
import Derived.Test.YtdjepfpmoeecaaaWiT
namespace Go.Proofs.Ytdjepfpmoeecaaa
open Go Go.RowKit
set_option maxRecDepth 10000
set_option linter.unusedSimpArgs false
set_option linter.unusedVariables false

structure WAct where
  kind : Int
  text : List UInt8
  n : Int
  at' : Int
  md : Int
  tok : Tok
def WAct.enc (a : WAct) : List Value := [.int .i64 a.kind, .string (str a.text), .int .i64 a.n, .int .i64 a.at', .int .i64 a.md] ++ a.tok.enc
def WAct.ce (a : WAct) : CE := ⟨a.at', a.md, a.tok⟩
def WAct.app (B st : Int) (a : WAct) (s : WS) : WS := if a.kind = 0 then s.feed B st a.text else if a.kind = 1 then s.need a.n else if a.kind = 2 then s.recl a.n else if a.kind = 3 then s.keep B a.ce else s.make B st a.n
theorem WAct.enc_len (a : WAct) : a.enc.length = 11 := rfl
theorem WOK.app {B st : Int} {s : WS} (h : WOK B s) (a : WAct) : WOK B (a.app B st s) := by
  unfold WAct.app
  split
  · exact h.feed _
  · split
    · exact h.need _
    · split
      · exact h.recl _
      · split
        · exact h.keep _
        · exact h.make
theorem app_len {B st : Int} {s : WS} (a : WAct) : (a.app B st s).all.length ≤ s.all.length + a.text.length := by
  have hm := fun n => makes_len (B := B) (st := st) (n := n) (s := s) (B.toNat + 1)
  unfold WAct.app
  split
  · simp only [WS.feed, WS.made, hm, List.length_append, List.length_take]; omega
  · split
    · simp [WS.need]
    · split
      · simp [WS.recl]
      · split
        · unfold WS.keep
          split
          · omega
          · split <;> simp
        · rw [make_all.1]; omega

theorem wSmall_spec (w0 : World) (n : Int) : Calls Try.prog 25 #[.int .i64 n] w0 fun e w' => e = .returned (.agg (Prm.enc ⟨n, 2, 2, 3, 2, 2, 2⟩).toArray) ∧ Goes w0 [] [] w' := by
  have hg := Goes.refl w0
  refine enter Try.func25 rfl (by simp only [Try.ntmps25, List.length_cons, List.length_nil, Nat.reduceAdd, Nat.reduceSub, List.replicate_succ, List.replicate_zero, List.cons_append, List.nil_append]; exact rfl) ?_
  repeat' (first
    | with_reducible refine QX.next ?_ | with_reducible refine WC.seq ?_ | with_reducible refine WC.region ?_ | with_reducible refine WC.block ?_ | with_reducible refine QX.bnorm ?_ | with_reducible refine QX.bret ?_ | with_reducible refine QX.ret ?_ | with_reducible refine QX.exit ?_ | with_reducible refine QX.bsame ?_ | with_reducible refine QX.bother rfl ?_
    | with_reducible refine WO.nil ?_ | with_reducible refine WC.skip ?_ | with_reducible refine WC.ret ?_ | with_reducible refine WC.exit ?_ | ((with_reducible refine WC.id ?_); first | refine WC.condT rfl ?_ | refine WC.condF rfl ?_)
    | (refine WC.quietG hg ?_; clear hg) | ((with_reducible refine WQ.nilG ?_); intro w hg)
    | ((with_reducible refine WQ.cid ?_); first | refine WQ.xG ?_ | refine WQ.pure ?_)
    | ((with_reducible refine WQ.gid ?_); first | refine WQ.on rfl ?_ | refine WQ.offN rfl rfl ?_)
    | ((with_reducible refine WO.cid ?_); first
      | refine WO.x ?_ | (refine op_alloc hg ?_; clear hg; intro b w hg; refine WO.fr ?_) | (refine op_boxA hg ?_; clear hg; intro b w hg; refine WO.fr ?_) | (refine op_box1 hg ?_; clear hg; intro b w hg; refine WO.fr ?_)
      | (refine op_store hg ?_; clear hg; intro w hg; refine WO.fr ?_; try simp only [List.set_cons_succ, List.set_cons_zero] at hg)
      | (refine op_storeA hg ?_; clear hg; intro w hg; refine WO.fr ?_; try simp only [over, List.take_zero, List.take_succ_cons, List.drop_zero, List.drop_succ_cons, List.nil_append, List.cons_append, List.append_nil, List.length_cons, List.length_nil, Nat.zero_add, Nat.reduceAdd, splice, cellsL] at hg)
      | (refine op_pure hg ?_; clear hg; intro w hg; refine WO.fr ?_) | (refine op_pureB hg ?_; clear hg; intro w hg c hc; cases c <;> refine WO.fr ?_))
    | ((with_reducible refine WO.gid ?_); first | refine WO.on rfl ?_ | refine WO.offN rfl rfl ?_))
  exact ret (.cells rfl (by first | with_reducible assumption | ((with_reducible apply Cells.ldn); (first | with_reducible assumption | ((with_reducible apply hg.cells0); with_reducible assumption) | with_reducible exact r1 hg | with_reducible exact r2 hg | with_reducible exact r3 hg | with_reducible exact t1 hs | with_reducible exact t2 hs | with_reducible exact t3 hs); exact rfl) | ((with_reducible apply CellsAt.ldn (hg := hg)); (repeat (first | ((with_reducible apply CellsAt.whole); exact rfl) | ((with_reducible apply CellsAt.here) <;> first | with_reducible assumption | (simp only [List.drop_zero, List.drop_succ_cons, List.take_succ_cons, List.take_zero]; exact rfl) | exact rfl) | with_reducible apply CellsAt.more | with_reducible apply CellsAt.next)); done)) .nil) ⟨rfl, hg.drop⟩

def wlight (l : List WAct) : Bool := l.all (fun x => decide (x.text.length ≤ 100)) && decide (l.length ≤ 60)
set_option maxHeartbeats 2000000 in
theorem wlight_spec (w0 : World) (a : Option Addr) (cap : Nat) (its : List WAct) (hS : Sl w0 a cap 11 (its.map WAct.enc)) : Calls Try.prog 23 #[.slice a its.length cap] w0 fun e w' => e = .returned (.bool (wlight its)) ∧ Goes w0 [] [] w' := by
  have hg := Goes.refl w0
  have hlim := hS.lim
  simp only [List.length_map] at hlim
  refine enter Try.func23 rfl (by simp only [Try.ntmps23, List.length_cons, List.length_nil, Nat.reduceAdd, Nat.reduceSub, List.replicate_succ, List.replicate_zero, List.cons_append, List.nil_append]; exact rfl) ?_
  repeat' (first
    | with_reducible refine QX.next ?_ | with_reducible refine WC.seq ?_ | with_reducible refine WC.region ?_ | with_reducible refine WC.block ?_ | with_reducible refine QX.bnorm ?_ | with_reducible refine QX.bret ?_ | with_reducible refine QX.ret ?_ | with_reducible refine QX.exit ?_ | with_reducible refine QX.bsame ?_ | with_reducible refine QX.bother rfl ?_
    | with_reducible refine WO.nil ?_ | with_reducible refine WC.skip ?_ | with_reducible refine WC.ret ?_ | with_reducible refine WC.exit ?_ | ((with_reducible refine WC.id ?_); first | refine WC.condT rfl ?_ | refine WC.condF rfl ?_)
    | (refine WC.quietG hg ?_; clear hg) | ((with_reducible refine WQ.nilG ?_); intro w hg)
    | ((with_reducible refine WQ.cid ?_); first | refine WQ.xG ?_ | refine WQ.pure ?_)
    | ((with_reducible refine WQ.gid ?_); first | refine WQ.on rfl ?_ | refine WQ.offN rfl rfl ?_)
    | ((with_reducible refine WO.cid ?_); first
      | refine WO.x ?_ | (refine op_alloc hg ?_; clear hg; intro b w hg; refine WO.fr ?_) | (refine op_boxA hg ?_; clear hg; intro b w hg; refine WO.fr ?_) | (refine op_box1 hg ?_; clear hg; intro b w hg; refine WO.fr ?_)
      | (refine op_store hg ?_; clear hg; intro w hg; refine WO.fr ?_; try simp only [List.set_cons_succ, List.set_cons_zero] at hg)
      | (refine op_storeA hg ?_; clear hg; intro w hg; refine WO.fr ?_; try simp only [over, List.take_zero, List.take_succ_cons, List.drop_zero, List.drop_succ_cons, List.nil_append, List.cons_append, List.append_nil, List.length_cons, List.length_nil, Nat.zero_add, Nat.reduceAdd, splice, cellsL] at hg)
      | (refine op_pure hg ?_; clear hg; intro w hg; refine WO.fr ?_) | (refine op_pureB hg ?_; clear hg; intro w hg c hc; cases c <;> refine WO.fr ?_))
    | ((with_reducible refine WO.gid ?_); first | refine WO.on rfl ?_ | refine WO.offN rfl rfl ?_))
  refine WC.loopS [2, 4, 7, 8, 9, 10, 11, 12, 13, 14, 15] (fun xs d w => ∃ i : Nat, d = [] ∧ (gt xs 2) = .int .i64 i ∧ i ≤ its.length ∧ (∀ x ∈ its.take i, x.text.length ≤ 100) ∧ Goes w0 [] [] w) (fun xs _ _ => its.length - (intOf (gt xs 2)).toNat) ?_ ?_
  · exact ⟨0, rfl, rfl, Nat.zero_le _, by simp, hg⟩
  clear hg
  intro xs d w hlen hI K hK
  replace hlen := len_cons hlen
  obtain ⟨x2, xs, rfl, hlen⟩ := hlen
  replace hlen := len_cons hlen
  obtain ⟨x4, xs, rfl, hlen⟩ := hlen
  replace hlen := len_cons hlen
  obtain ⟨x7, xs, rfl, hlen⟩ := hlen
  replace hlen := len_cons hlen
  obtain ⟨x8, xs, rfl, hlen⟩ := hlen
  replace hlen := len_cons hlen
  obtain ⟨x9, xs, rfl, hlen⟩ := hlen
  replace hlen := len_cons hlen
  obtain ⟨x10, xs, rfl, hlen⟩ := hlen
  replace hlen := len_cons hlen
  obtain ⟨x11, xs, rfl, hlen⟩ := hlen
  replace hlen := len_cons hlen
  obtain ⟨x12, xs, rfl, hlen⟩ := hlen
  replace hlen := len_cons hlen
  obtain ⟨x13, xs, rfl, hlen⟩ := hlen
  replace hlen := len_cons hlen
  obtain ⟨x14, xs, rfl, hlen⟩ := hlen
  replace hlen := len_cons hlen
  obtain ⟨x15, xs, rfl, hlen⟩ := hlen
  replace hlen := len_nil hlen
  subst hlen
  refine WC.frame (by simp only [setAll, List.set_cons_succ, List.set_cons_zero]; exact rfl) ?_
  try simp only [gt] at hI
  obtain ⟨i, rfl, rfl, hi, hV, hg⟩ := hI
  by_cases hlt : i < its.length
  rotate_left
  · rw [List.take_of_length_le (by omega)] at hV
    have hall : its.all (fun x => decide (x.text.length ≤ 100)) = true := List.all_eq_true.2 fun x hx => decide_eq_true (hV x hx)
    by_cases h60 : its.length ≤ 60
    · rw [show wlight its = true from by simp only [wlight, hall, decide_eq_true h60]; rfl]
      repeat' (first
        | with_reducible refine QX.next ?_ | with_reducible refine WC.seq ?_ | with_reducible refine WC.region ?_ | with_reducible refine WC.block ?_ | with_reducible refine QX.bnorm ?_ | with_reducible refine QX.bret ?_ | with_reducible refine QX.ret ?_ | with_reducible refine QX.exit ?_ | with_reducible refine QX.bsame ?_ | with_reducible refine QX.bother rfl ?_
        | with_reducible refine WO.nil ?_ | with_reducible refine WC.skip ?_ | with_reducible refine WC.ret ?_ | with_reducible refine WC.exit ?_ | ((with_reducible refine WC.id ?_); first | refine WC.condT rfl ?_ | refine WC.condF rfl ?_)
        | (refine WC.quietG hg ?_; clear hg) | ((with_reducible refine WQ.nilG ?_); intro w hg)
        | ((with_reducible refine WQ.cid ?_); first | refine WQ.xG ?_ | refine WQ.pure ?_)
        | ((with_reducible refine WQ.gid ?_); first | refine WQ.on rfl ?_ | refine WQ.offN rfl rfl ?_)
        | ((with_reducible refine WO.cid ?_); first
          | refine WO.x ?_ | (refine op_alloc hg ?_; clear hg; intro b w hg; refine WO.fr ?_) | (refine op_boxA hg ?_; clear hg; intro b w hg; refine WO.fr ?_) | (refine op_box1 hg ?_; clear hg; intro b w hg; refine WO.fr ?_)
          | (refine op_store hg ?_; clear hg; intro w hg; refine WO.fr ?_; try simp only [List.set_cons_succ, List.set_cons_zero] at hg)
          | (refine op_storeA hg ?_; clear hg; intro w hg; refine WO.fr ?_; try simp only [over, List.take_zero, List.take_succ_cons, List.drop_zero, List.drop_succ_cons, List.nil_append, List.cons_append, List.append_nil, List.length_cons, List.length_nil, Nat.zero_add, Nat.reduceAdd, splice, cellsL] at hg)
          | (refine op_pure hg ?_; clear hg; intro w hg; refine WO.fr ?_) | (refine op_pureB hg ?_; clear hg; intro w hg c hc; cases c <;> refine WO.fr ?_))
        | ((with_reducible refine WO.gid ?_); first | refine WO.on rfl ?_ | refine WO.offN rfl rfl ?_))
      exact ret1 rfl ⟨rfl, hg.drop⟩
    · rw [show wlight its = false from by simp only [wlight, hall, decide_eq_false h60]; rfl]
      repeat' (first
        | with_reducible refine QX.next ?_ | with_reducible refine WC.seq ?_ | with_reducible refine WC.region ?_ | with_reducible refine WC.block ?_ | with_reducible refine QX.bnorm ?_ | with_reducible refine QX.bret ?_ | with_reducible refine QX.ret ?_ | with_reducible refine QX.exit ?_ | with_reducible refine QX.bsame ?_ | with_reducible refine QX.bother rfl ?_
        | with_reducible refine WO.nil ?_ | with_reducible refine WC.skip ?_ | with_reducible refine WC.ret ?_ | with_reducible refine WC.exit ?_ | ((with_reducible refine WC.id ?_); first | refine WC.condT rfl ?_ | refine WC.condF rfl ?_)
        | (refine WC.quietG hg ?_; clear hg) | ((with_reducible refine WQ.nilG ?_); intro w hg)
        | ((with_reducible refine WQ.cid ?_); first | refine WQ.xG ?_ | refine WQ.pure ?_)
        | ((with_reducible refine WQ.gid ?_); first | refine WQ.on rfl ?_ | refine WQ.offN rfl rfl ?_)
        | ((with_reducible refine WO.cid ?_); first
          | refine WO.x ?_ | (refine op_alloc hg ?_; clear hg; intro b w hg; refine WO.fr ?_) | (refine op_boxA hg ?_; clear hg; intro b w hg; refine WO.fr ?_) | (refine op_box1 hg ?_; clear hg; intro b w hg; refine WO.fr ?_)
          | (refine op_store hg ?_; clear hg; intro w hg; refine WO.fr ?_; try simp only [List.set_cons_succ, List.set_cons_zero] at hg)
          | (refine op_storeA hg ?_; clear hg; intro w hg; refine WO.fr ?_; try simp only [over, List.take_zero, List.take_succ_cons, List.drop_zero, List.drop_succ_cons, List.nil_append, List.cons_append, List.append_nil, List.length_cons, List.length_nil, Nat.zero_add, Nat.reduceAdd, splice, cellsL] at hg)
          | (refine op_pure hg ?_; clear hg; intro w hg; refine WO.fr ?_) | (refine op_pureB hg ?_; clear hg; intro w hg c hc; cases c <;> refine WO.fr ?_))
        | ((with_reducible refine WO.gid ?_); first | refine WO.on rfl ?_ | refine WO.offN rfl rfl ?_))
      exact ret1 rfl ⟨rfl, hg.drop⟩
  obtain ⟨bs, ks, rfl, _, hrow⟩ := hS.at (i := i) (r := its[i].enc) (by simp [hlt])
  generalize hx : its[i] = a at hrow
  have r1 : ∀ {w Fs}, Goes w0 [] Fs w → Cells w ⟨bs, ks + i * 11, none⟩ [.int .i64 a.kind, .string (str a.text), .int .i64 a.n, .int .i64 a.at', .int .i64 a.md, .int .i64 a.tok.kind, .int .i64 a.tok.rule, .int .i64 a.tok.fr, .int .i64 a.tok.at', .int .i64 a.tok.to, .int .i64 a.tok.mode] := fun h => h.cellsOld hrow (by simp)
  clear hrow
  have hsz := str_size a.text
  by_cases hbig : (100 : Int) < (str a.text).size
  · rw [show wlight its = false from by
      have : its.all (fun x => decide (x.text.length ≤ 100)) = false := by
        rw [Bool.eq_false_iff]
        intro h
        have := of_decide_eq_true (List.all_eq_true.1 h its[i] (List.getElem_mem hlt))
        rw [hx] at this
        omega
      simp only [wlight, this]; rfl]
    repeat' (first
      | with_reducible refine QX.next ?_ | with_reducible refine WC.seq ?_ | with_reducible refine WC.region ?_ | with_reducible refine WC.block ?_ | with_reducible refine QX.bnorm ?_ | with_reducible refine QX.bret ?_ | with_reducible refine QX.ret ?_ | with_reducible refine QX.exit ?_ | with_reducible refine QX.bsame ?_ | with_reducible refine QX.bother rfl ?_
      | with_reducible refine WO.nil ?_ | with_reducible refine WC.skip ?_ | with_reducible refine WC.ret ?_ | with_reducible refine WC.exit ?_ | ((with_reducible refine WC.id ?_); first | refine WC.condT rfl ?_ | refine WC.condF rfl ?_)
      | (refine WC.quietG hg ?_; clear hg) | ((with_reducible refine WQ.nilG ?_); intro w hg)
      | ((with_reducible refine WQ.cid ?_); first | refine WQ.xG ?_ | refine WQ.pure ?_)
      | ((with_reducible refine WQ.gid ?_); first | refine WQ.on rfl ?_ | refine WQ.offN rfl rfl ?_)
      | ((with_reducible refine WO.cid ?_); first
        | refine WO.x ?_ | (refine op_alloc hg ?_; clear hg; intro b w hg; refine WO.fr ?_) | (refine op_boxA hg ?_; clear hg; intro b w hg; refine WO.fr ?_) | (refine op_box1 hg ?_; clear hg; intro b w hg; refine WO.fr ?_)
        | (refine op_store hg ?_; clear hg; intro w hg; refine WO.fr ?_; try simp only [List.set_cons_succ, List.set_cons_zero] at hg)
        | (refine op_storeA hg ?_; clear hg; intro w hg; refine WO.fr ?_; try simp only [over, List.take_zero, List.take_succ_cons, List.drop_zero, List.drop_succ_cons, List.nil_append, List.cons_append, List.append_nil, List.length_cons, List.length_nil, Nat.zero_add, Nat.reduceAdd, splice, cellsL] at hg)
        | (refine op_pure hg ?_; clear hg; intro w hg; refine WO.fr ?_) | (refine op_pureB hg ?_; clear hg; intro w hg c hc; cases c <;> refine WO.fr ?_))
      | ((with_reducible refine WO.gid ?_); first | refine WO.on rfl ?_ | refine WO.offN rfl rfl ?_))
    exact ret1 rfl ⟨rfl, hg.drop⟩
  repeat' (first
    | with_reducible refine QX.next ?_ | with_reducible refine WC.seq ?_ | with_reducible refine WC.region ?_ | with_reducible refine WC.block ?_ | with_reducible refine QX.bnorm ?_ | with_reducible refine QX.bret ?_ | with_reducible refine QX.ret ?_ | with_reducible refine QX.exit ?_ | with_reducible refine QX.bsame ?_ | with_reducible refine QX.bother rfl ?_
    | with_reducible refine WO.nil ?_ | with_reducible refine WC.skip ?_ | with_reducible refine WC.ret ?_ | with_reducible refine WC.exit ?_ | ((with_reducible refine WC.id ?_); first | refine WC.condT rfl ?_ | refine WC.condF rfl ?_)
    | (refine WC.quietG hg ?_; clear hg) | ((with_reducible refine WQ.nilG ?_); intro w hg)
    | ((with_reducible refine WQ.cid ?_); first | refine WQ.xG ?_ | refine WQ.pure ?_)
    | ((with_reducible refine WQ.gid ?_); first | refine WQ.on rfl ?_ | refine WQ.offN rfl rfl ?_)
    | ((with_reducible refine WO.cid ?_); first
      | refine WO.x ?_ | (refine op_alloc hg ?_; clear hg; intro b w hg; refine WO.fr ?_) | (refine op_boxA hg ?_; clear hg; intro b w hg; refine WO.fr ?_) | (refine op_box1 hg ?_; clear hg; intro b w hg; refine WO.fr ?_)
      | (refine op_store hg ?_; clear hg; intro w hg; refine WO.fr ?_; try simp only [List.set_cons_succ, List.set_cons_zero] at hg)
      | (refine op_storeA hg ?_; clear hg; intro w hg; refine WO.fr ?_; try simp only [over, List.take_zero, List.take_succ_cons, List.drop_zero, List.drop_succ_cons, List.nil_append, List.cons_append, List.append_nil, List.length_cons, List.length_nil, Nat.zero_add, Nat.reduceAdd, splice, cellsL] at hg)
      | (refine op_pure hg ?_; clear hg; intro w hg; refine WO.fr ?_) | (refine op_pureB hg ?_; clear hg; intro w hg c hc; cases c <;> refine WO.fr ?_))
    | ((with_reducible refine WO.gid ?_); first | refine WO.on rfl ?_ | refine WO.offN rfl rfl ?_))
  with_reducible refine QX.norm ?_
  refine hK _ _ _ ?_ ?_ ?_
  · simp only [setAll, List.map_cons, List.map_nil, gt, List.set_cons_succ, List.set_cons_zero]
  all_goals try simp only [List.map_cons, List.map_nil, gt, intOf]
  · refine ⟨i + 1, trivial, rfl, hlt, ?_, hg.sub (by simp)⟩
    intro x hxm
    rw [List.take_add_one, List.mem_append, List.getElem?_eq_getElem hlt, hx] at hxm
    rcases hxm with h | h
    · exact hV x h
    · simp at h
      subst h
      omega
  · omega
theorem Goes.head2 {w0 w : World} {M : List Nat} {a b : Frag} {Fs : List Frag} (h : Goes w0 M (a :: b :: Fs) w) : Goes w0 M [a, b] w := h.sub (by simp)
section
variable {pw pm : Nat} {p : Prm} {s t : WS} {f f2 : Frag} {w0 : World}
set_option maxHeartbeats 8000000 in
theorem wplay_spec (a : WAct) (hF : WinF pw p s f) (hD : DocF pm p t f2) (hO : Owns w0 (f ++ f2)) (hW : WOK p.bytes s) (hV : WOK p.bytes t) (hs : s.all.length ≤ 50000) (ht : t.all.length ≤ 50000) (ha : a.text.length ≤ 1000) :
    Calls Try.prog 29 #[.pointer (some ⟨pw, 0, none⟩), .pointer (some ⟨pm, 0, none⟩), .agg a.enc.toArray] w0 fun e w' => ∃ (b : Bool) (f' f2' : Frag), e = .returned (.bool b) ∧ (s = t → b = true) ∧ WinF pw p (a.app p.bytes p.step s) f' ∧ DocF pm p (a.app p.bytes p.step t) f2' ∧ Goes w0 (keys (f ++ f2)) [f', f2'] w' := by
  have hg := hO.goes.pair
  unfold WAct.app
  simp only [WAct.enc, Tok.enc, List.cons_append, List.nil_append]
  refine enter Try.func29 rfl (by simp only [Try.ntmps29, List.length_cons, List.length_nil, Nat.reduceAdd, Nat.reduceSub, List.replicate_succ, List.replicate_zero, List.cons_append, List.nil_append]; exact rfl) ?_
  by_cases hk0 : a.kind = 0
  · skip
    rw [if_pos hk0, if_pos hk0]
    repeat' (first
      | with_reducible refine QX.next ?_ | with_reducible refine WC.seq ?_ | with_reducible refine WC.region ?_ | with_reducible refine WC.block ?_ | with_reducible refine QX.bnorm ?_ | with_reducible refine QX.bret ?_ | with_reducible refine QX.ret ?_ | with_reducible refine QX.exit ?_ | with_reducible refine QX.bsame ?_ | with_reducible refine QX.bother rfl ?_
      | with_reducible refine WO.nil ?_ | with_reducible refine WC.skip ?_ | with_reducible refine WC.ret ?_ | with_reducible refine WC.exit ?_ | ((with_reducible refine WC.id ?_); first | refine WC.condT rfl ?_ | refine WC.condF rfl ?_)
      | ((with_reducible refine WQ.cid ?_); first | refine WQ.xG ?_ | refine WQ.pure ?_)
      | ((with_reducible refine WQ.gid ?_); first | refine WQ.on rfl ?_ | refine WQ.offN rfl rfl ?_)
      | ((with_reducible refine WO.cid ?_); first
        | refine WO.x ?_ | (refine op_alloc hg ?_; clear hg; intro b w hg; refine WO.fr ?_) | (refine op_boxA hg ?_; clear hg; intro b w hg; refine WO.fr ?_) | (refine op_box1 hg ?_; clear hg; intro b w hg; refine WO.fr ?_)
        | (refine op_store hg ?_; clear hg; intro w hg; refine WO.fr ?_; try simp only [List.set_cons_succ, List.set_cons_zero] at hg)
        | (refine op_storeA hg ?_; clear hg; intro w hg; refine WO.fr ?_; try simp only [over, List.take_zero, List.take_succ_cons, List.drop_zero, List.drop_succ_cons, List.nil_append, List.cons_append, List.append_nil, List.length_cons, List.length_nil, Nat.zero_add, Nat.reduceAdd, splice, cellsL] at hg)
        | (refine op_pure hg ?_; clear hg; intro w hg; refine WO.fr ?_) | (refine op_pureB hg ?_; clear hg; intro w hg c hc; cases c <;> refine WO.fr ?_))
      | ((with_reducible refine WO.gid ?_); first | refine WO.on rfl ?_ | refine WO.offN rfl rfl ?_))
    have s1 : ∀ {w : World}, (w.heap[b]? = some (.cells (List.toArray [.int .i64 a.kind, .string (str a.text), .int .i64 a.n, .int .i64 a.at', .int .i64 a.md, .int .i64 a.tok.kind, .int .i64 a.tok.rule, .int .i64 a.tok.fr, .int .i64 a.tok.at', .int .i64 a.tok.to, .int .i64 a.tok.mode]) 66 (0, 0))) → w.cell? ⟨b, 1, none⟩ = some (.string (str a.text)) := fun h => heap_cell h rfl
    have s2 : ∀ {w : World}, (w.heap[b]? = some (.cells (List.toArray [.int .i64 a.kind, .string (str a.text), .int .i64 a.n, .int .i64 a.at', .int .i64 a.md, .int .i64 a.tok.kind, .int .i64 a.tok.rule, .int .i64 a.tok.fr, .int .i64 a.tok.at', .int .i64 a.tok.to, .int .i64 a.tok.mode]) 66 (0, 0))) → w.cell? ⟨b, 2, none⟩ = some (.int .i64 a.n) := fun h => heap_cell h rfl
    have t1 : ∀ {w : World}, (w.heap[b]? = some (.cells (List.toArray [.int .i64 a.kind, .string (str a.text), .int .i64 a.n, .int .i64 a.at', .int .i64 a.md, .int .i64 a.tok.kind, .int .i64 a.tok.rule, .int .i64 a.tok.fr, .int .i64 a.tok.at', .int .i64 a.tok.to, .int .i64 a.tok.mode]) 66 (0, 0))) → Cells w ⟨b, 3, none⟩ [.int .i64 a.at', .int .i64 a.md] := fun h => heap_cells h rfl
    have t2 : ∀ {w : World}, (w.heap[b]? = some (.cells (List.toArray [.int .i64 a.kind, .string (str a.text), .int .i64 a.n, .int .i64 a.at', .int .i64 a.md, .int .i64 a.tok.kind, .int .i64 a.tok.rule, .int .i64 a.tok.fr, .int .i64 a.tok.at', .int .i64 a.tok.to, .int .i64 a.tok.mode]) 66 (0, 0))) → Cells w ⟨b, 5, none⟩ [.int .i64 a.tok.kind, .int .i64 a.tok.rule, .int .i64 a.tok.fr, .int .i64 a.tok.at', .int .i64 a.tok.to, .int .i64 a.tok.mode] := fun h => heap_cells h rfl
    refine WC.drawn (fun w => w.heap[b]? = some (.cells (List.toArray [.int .i64 a.kind, .string (str a.text), .int .i64 a.n, .int .i64 a.at', .int .i64 a.md, .int .i64 a.tok.kind, .int .i64 a.tok.rule, .int .i64 a.tok.fr, .int .i64 a.tok.at', .int .i64 a.tok.to, .int .i64 a.tok.mode]) 66 (0, 0))) [] hg ?_
    clear hg
    intro w hg
    have hS : (fun w => w.heap[b]? = some (.cells (List.toArray [.int .i64 a.kind, .string (str a.text), .int .i64 a.n, .int .i64 a.at', .int .i64 a.md, .int .i64 a.tok.kind, .int .i64 a.tok.rule, .int .i64 a.tok.fr, .int .i64 a.tok.at', .int .i64 a.tok.to, .int .i64 a.tok.mode]) 66 (0, 0))) w := hg.own (b, .cells (List.toArray [.int .i64 a.kind, .string (str a.text), .int .i64 a.n, .int .i64 a.at', .int .i64 a.md, .int .i64 a.tok.kind, .int .i64 a.tok.rule, .int .i64 a.tok.fr, .int .i64 a.tok.at', .int .i64 a.tok.to, .int .i64 a.tok.mode]) 66 (0, 0)) (by simp)
    refine WA.passM 0 hS ?_
    refine WA.passM 1 hS ?_
    refine WA.passM 4 hS ?_
    refine WA.passM 5 hS ?_
    refine WA.passM 2 hS ?_
    refine WA.passM 6 hS ?_
    refine WA.only 3 ?_
    refine op_call (wFeed_spec a.text hF (hg.front 1).owns1 hW (by omega) (by omega)) ?_
    rintro _ w ⟨f3, rfl, hF3, hg2⟩
    replace hg := (hg.front 1).callF hg2
    clear hg2 hS
    refine ⟨_, rfl, ?_⟩
    refine WO.fr ?_
    have hS : (fun w => w.heap[b]? = some (.cells (List.toArray [.int .i64 a.kind, .string (str a.text), .int .i64 a.n, .int .i64 a.at', .int .i64 a.md, .int .i64 a.tok.kind, .int .i64 a.tok.rule, .int .i64 a.tok.fr, .int .i64 a.tok.at', .int .i64 a.tok.to, .int .i64 a.tok.mode]) 66 (0, 0))) w := hg.own (b, .cells (List.toArray [.int .i64 a.kind, .string (str a.text), .int .i64 a.n, .int .i64 a.at', .int .i64 a.md, .int .i64 a.tok.kind, .int .i64 a.tok.rule, .int .i64 a.tok.fr, .int .i64 a.tok.at', .int .i64 a.tok.to, .int .i64 a.tok.mode]) 66 (0, 0)) (by simp)
    refine WO.nilA hS ?_
    refine WA.only 7 ?_
    refine op_call (dFeed_spec a.text hD (hg.front 2).owns1 hV (by omega) (by omega)) ?_
    rintro _ w ⟨f4, rfl, hF4, hg2⟩
    replace hg := (hg.front 2).callF hg2
    clear hg2 hS
    refine ⟨_, rfl, ?_⟩
    refine WO.fr ?_
    by_cases heq : ((s.fedN p.bytes p.step a.text : Nat) : Int) = (t.fedN p.bytes p.step a.text : Nat)
    · skip
      have hS : (fun w => w.heap[b]? = some (.cells (List.toArray [.int .i64 a.kind, .string (str a.text), .int .i64 a.n, .int .i64 a.at', .int .i64 a.md, .int .i64 a.tok.kind, .int .i64 a.tok.rule, .int .i64 a.tok.fr, .int .i64 a.tok.at', .int .i64 a.tok.to, .int .i64 a.tok.mode]) 66 (0, 0))) w := hg.own (b, .cells (List.toArray [.int .i64 a.kind, .string (str a.text), .int .i64 a.n, .int .i64 a.at', .int .i64 a.md, .int .i64 a.tok.kind, .int .i64 a.tok.rule, .int .i64 a.tok.fr, .int .i64 a.tok.at', .int .i64 a.tok.to, .int .i64 a.tok.mode]) 66 (0, 0)) (by simp)
      refine WO.nilA hS ?_
      refine WA.passM 8 hS ?_
      refine WA.passM 9 hS ?_
      refine WA.nil ?_
      repeat' (first
        | with_reducible refine QX.next ?_ | with_reducible refine WC.seq ?_ | with_reducible refine WC.region ?_ | with_reducible refine WC.block ?_ | with_reducible refine QX.bnorm ?_ | with_reducible refine QX.bret ?_ | with_reducible refine QX.ret ?_ | with_reducible refine QX.exit ?_ | with_reducible refine QX.bsame ?_ | with_reducible refine QX.bother rfl ?_
        | with_reducible refine WO.nil ?_ | with_reducible refine WC.skip ?_ | with_reducible refine WC.ret ?_ | with_reducible refine WC.exit ?_ | ((with_reducible refine WC.id ?_); first | refine WC.condT rfl ?_ | refine WC.condF rfl ?_)
        | ((with_reducible refine WQ.cid ?_); first | refine WQ.xG ?_ | refine WQ.pure ?_)
        | ((with_reducible refine WQ.gid ?_); first | refine WQ.on rfl ?_ | refine WQ.offN rfl rfl ?_)
        | ((with_reducible refine WO.cid ?_); first
          | refine WO.x ?_ | (refine op_alloc hg ?_; clear hg; intro b w hg; refine WO.fr ?_) | (refine op_boxA hg ?_; clear hg; intro b w hg; refine WO.fr ?_) | (refine op_box1 hg ?_; clear hg; intro b w hg; refine WO.fr ?_)
          | (refine op_store hg ?_; clear hg; intro w hg; refine WO.fr ?_; try simp only [List.set_cons_succ, List.set_cons_zero] at hg)
          | (refine op_storeA hg ?_; clear hg; intro w hg; refine WO.fr ?_; try simp only [over, List.take_zero, List.take_succ_cons, List.drop_zero, List.drop_succ_cons, List.nil_append, List.cons_append, List.append_nil, List.length_cons, List.length_nil, Nat.zero_add, Nat.reduceAdd, splice, cellsL] at hg)
          | (refine op_pure hg ?_; clear hg; intro w hg; refine WO.fr ?_) | (refine op_pureB hg ?_; clear hg; intro w hg c hc; cases c <;> refine WO.fr ?_))
        | ((with_reducible refine WO.gid ?_); first | refine WO.on rfl ?_ | refine WO.offN rfl rfl ?_))
      exact ret1 rfl ⟨_, f3, f4, rfl, fun _ => rfl, hF3, hF4, (((hg.front 2).front 1).front 2).head2⟩
    · skip
      have hS : (fun w => w.heap[b]? = some (.cells (List.toArray [.int .i64 a.kind, .string (str a.text), .int .i64 a.n, .int .i64 a.at', .int .i64 a.md, .int .i64 a.tok.kind, .int .i64 a.tok.rule, .int .i64 a.tok.fr, .int .i64 a.tok.at', .int .i64 a.tok.to, .int .i64 a.tok.mode]) 66 (0, 0))) w := hg.own (b, .cells (List.toArray [.int .i64 a.kind, .string (str a.text), .int .i64 a.n, .int .i64 a.at', .int .i64 a.md, .int .i64 a.tok.kind, .int .i64 a.tok.rule, .int .i64 a.tok.fr, .int .i64 a.tok.at', .int .i64 a.tok.to, .int .i64 a.tok.mode]) 66 (0, 0)) (by simp)
      refine WO.nilA hS ?_
      refine WA.passM 8 hS ?_
      refine WA.passM 9 hS ?_
      refine WA.nil ?_
      repeat' (first
        | with_reducible refine QX.next ?_ | with_reducible refine WC.seq ?_ | with_reducible refine WC.region ?_ | with_reducible refine WC.block ?_ | with_reducible refine QX.bnorm ?_ | with_reducible refine QX.bret ?_ | with_reducible refine QX.ret ?_ | with_reducible refine QX.exit ?_ | with_reducible refine QX.bsame ?_ | with_reducible refine QX.bother rfl ?_
        | with_reducible refine WO.nil ?_ | with_reducible refine WC.skip ?_ | with_reducible refine WC.ret ?_ | with_reducible refine WC.exit ?_ | ((with_reducible refine WC.id ?_); first | refine WC.condT rfl ?_ | refine WC.condF rfl ?_)
        | ((with_reducible refine WQ.cid ?_); first | refine WQ.xG ?_ | refine WQ.pure ?_)
        | ((with_reducible refine WQ.gid ?_); first | refine WQ.on rfl ?_ | refine WQ.offN rfl rfl ?_)
        | ((with_reducible refine WO.cid ?_); first
          | refine WO.x ?_ | (refine op_alloc hg ?_; clear hg; intro b w hg; refine WO.fr ?_) | (refine op_boxA hg ?_; clear hg; intro b w hg; refine WO.fr ?_) | (refine op_box1 hg ?_; clear hg; intro b w hg; refine WO.fr ?_)
          | (refine op_store hg ?_; clear hg; intro w hg; refine WO.fr ?_; try simp only [List.set_cons_succ, List.set_cons_zero] at hg)
          | (refine op_storeA hg ?_; clear hg; intro w hg; refine WO.fr ?_; try simp only [over, List.take_zero, List.take_succ_cons, List.drop_zero, List.drop_succ_cons, List.nil_append, List.cons_append, List.append_nil, List.length_cons, List.length_nil, Nat.zero_add, Nat.reduceAdd, splice, cellsL] at hg)
          | (refine op_pure hg ?_; clear hg; intro w hg; refine WO.fr ?_) | (refine op_pureB hg ?_; clear hg; intro w hg c hc; cases c <;> refine WO.fr ?_))
        | ((with_reducible refine WO.gid ?_); first | refine WO.on rfl ?_ | refine WO.offN rfl rfl ?_))
      exact ret1 rfl ⟨_, f3, f4, rfl, fun h => absurd (by rw [h]) heq, hF3, hF4, (((hg.front 2).front 1).front 2).head2⟩
  rw [if_neg hk0, if_neg hk0]
  by_cases hk1 : a.kind = 1
  · skip
    rw [if_pos hk1, if_pos hk1]
    repeat' (first
      | with_reducible refine QX.next ?_ | with_reducible refine WC.seq ?_ | with_reducible refine WC.region ?_ | with_reducible refine WC.block ?_ | with_reducible refine QX.bnorm ?_ | with_reducible refine QX.bret ?_ | with_reducible refine QX.ret ?_ | with_reducible refine QX.exit ?_ | with_reducible refine QX.bsame ?_ | with_reducible refine QX.bother rfl ?_
      | with_reducible refine WO.nil ?_ | with_reducible refine WC.skip ?_ | with_reducible refine WC.ret ?_ | with_reducible refine WC.exit ?_ | ((with_reducible refine WC.id ?_); first | refine WC.condT rfl ?_ | refine WC.condF rfl ?_)
      | ((with_reducible refine WQ.cid ?_); first | refine WQ.xG ?_ | refine WQ.pure ?_)
      | ((with_reducible refine WQ.gid ?_); first | refine WQ.on rfl ?_ | refine WQ.offN rfl rfl ?_)
      | ((with_reducible refine WO.cid ?_); first
        | refine WO.x ?_ | (refine op_alloc hg ?_; clear hg; intro b w hg; refine WO.fr ?_) | (refine op_boxA hg ?_; clear hg; intro b w hg; refine WO.fr ?_) | (refine op_box1 hg ?_; clear hg; intro b w hg; refine WO.fr ?_)
        | (refine op_store hg ?_; clear hg; intro w hg; refine WO.fr ?_; try simp only [List.set_cons_succ, List.set_cons_zero] at hg)
        | (refine op_storeA hg ?_; clear hg; intro w hg; refine WO.fr ?_; try simp only [over, List.take_zero, List.take_succ_cons, List.drop_zero, List.drop_succ_cons, List.nil_append, List.cons_append, List.append_nil, List.length_cons, List.length_nil, Nat.zero_add, Nat.reduceAdd, splice, cellsL] at hg)
        | (refine op_pure hg ?_; clear hg; intro w hg; refine WO.fr ?_) | (refine op_pureB hg ?_; clear hg; intro w hg c hc; cases c <;> refine WO.fr ?_))
      | ((with_reducible refine WO.gid ?_); first | refine WO.on rfl ?_ | refine WO.offN rfl rfl ?_))
    have s1 : ∀ {w : World}, (w.heap[b]? = some (.cells (List.toArray [.int .i64 a.kind, .string (str a.text), .int .i64 a.n, .int .i64 a.at', .int .i64 a.md, .int .i64 a.tok.kind, .int .i64 a.tok.rule, .int .i64 a.tok.fr, .int .i64 a.tok.at', .int .i64 a.tok.to, .int .i64 a.tok.mode]) 66 (0, 0))) → w.cell? ⟨b, 1, none⟩ = some (.string (str a.text)) := fun h => heap_cell h rfl
    have s2 : ∀ {w : World}, (w.heap[b]? = some (.cells (List.toArray [.int .i64 a.kind, .string (str a.text), .int .i64 a.n, .int .i64 a.at', .int .i64 a.md, .int .i64 a.tok.kind, .int .i64 a.tok.rule, .int .i64 a.tok.fr, .int .i64 a.tok.at', .int .i64 a.tok.to, .int .i64 a.tok.mode]) 66 (0, 0))) → w.cell? ⟨b, 2, none⟩ = some (.int .i64 a.n) := fun h => heap_cell h rfl
    have t1 : ∀ {w : World}, (w.heap[b]? = some (.cells (List.toArray [.int .i64 a.kind, .string (str a.text), .int .i64 a.n, .int .i64 a.at', .int .i64 a.md, .int .i64 a.tok.kind, .int .i64 a.tok.rule, .int .i64 a.tok.fr, .int .i64 a.tok.at', .int .i64 a.tok.to, .int .i64 a.tok.mode]) 66 (0, 0))) → Cells w ⟨b, 3, none⟩ [.int .i64 a.at', .int .i64 a.md] := fun h => heap_cells h rfl
    have t2 : ∀ {w : World}, (w.heap[b]? = some (.cells (List.toArray [.int .i64 a.kind, .string (str a.text), .int .i64 a.n, .int .i64 a.at', .int .i64 a.md, .int .i64 a.tok.kind, .int .i64 a.tok.rule, .int .i64 a.tok.fr, .int .i64 a.tok.at', .int .i64 a.tok.to, .int .i64 a.tok.mode]) 66 (0, 0))) → Cells w ⟨b, 5, none⟩ [.int .i64 a.tok.kind, .int .i64 a.tok.rule, .int .i64 a.tok.fr, .int .i64 a.tok.at', .int .i64 a.tok.to, .int .i64 a.tok.mode] := fun h => heap_cells h rfl
    refine WC.drawn (fun w => w.heap[b]? = some (.cells (List.toArray [.int .i64 a.kind, .string (str a.text), .int .i64 a.n, .int .i64 a.at', .int .i64 a.md, .int .i64 a.tok.kind, .int .i64 a.tok.rule, .int .i64 a.tok.fr, .int .i64 a.tok.at', .int .i64 a.tok.to, .int .i64 a.tok.mode]) 66 (0, 0))) [] hg ?_
    clear hg
    intro w hg
    have hS : (fun w => w.heap[b]? = some (.cells (List.toArray [.int .i64 a.kind, .string (str a.text), .int .i64 a.n, .int .i64 a.at', .int .i64 a.md, .int .i64 a.tok.kind, .int .i64 a.tok.rule, .int .i64 a.tok.fr, .int .i64 a.tok.at', .int .i64 a.tok.to, .int .i64 a.tok.mode]) 66 (0, 0))) w := hg.own (b, .cells (List.toArray [.int .i64 a.kind, .string (str a.text), .int .i64 a.n, .int .i64 a.at', .int .i64 a.md, .int .i64 a.tok.kind, .int .i64 a.tok.rule, .int .i64 a.tok.fr, .int .i64 a.tok.at', .int .i64 a.tok.to, .int .i64 a.tok.mode]) 66 (0, 0)) (by simp)
    refine WA.passM 0 hS ?_
    refine WA.passM 1 hS ?_
    refine WA.passM 4 hS ?_
    refine WA.passM 5 hS ?_
    refine WA.passM 2 hS ?_
    refine WA.passM 6 hS ?_
    refine WA.only 3 ?_
    refine op_call (wNeed_spec a.n hF (hg.front 1).owns1 hW) ?_
    rintro _ w ⟨f3, rfl, hF3, hg2⟩
    replace hg := (hg.front 1).callF hg2
    clear hg2 hS
    refine ⟨_, rfl, ?_⟩
    refine WO.fr ?_
    have hS : (fun w => w.heap[b]? = some (.cells (List.toArray [.int .i64 a.kind, .string (str a.text), .int .i64 a.n, .int .i64 a.at', .int .i64 a.md, .int .i64 a.tok.kind, .int .i64 a.tok.rule, .int .i64 a.tok.fr, .int .i64 a.tok.at', .int .i64 a.tok.to, .int .i64 a.tok.mode]) 66 (0, 0))) w := hg.own (b, .cells (List.toArray [.int .i64 a.kind, .string (str a.text), .int .i64 a.n, .int .i64 a.at', .int .i64 a.md, .int .i64 a.tok.kind, .int .i64 a.tok.rule, .int .i64 a.tok.fr, .int .i64 a.tok.at', .int .i64 a.tok.to, .int .i64 a.tok.mode]) 66 (0, 0)) (by simp)
    refine WO.nilA hS ?_
    refine WA.only 7 ?_
    refine op_call (dNeed_spec a.n hD (hg.front 2).owns1 hV (by omega)) ?_
    rintro _ w ⟨f4, rfl, hF4, hg2⟩
    replace hg := (hg.front 2).callF hg2
    clear hg2 hS
    refine ⟨_, rfl, ?_⟩
    refine WO.fr ?_
    by_cases heq : ((s.need a.n).low : Int) = (t.need a.n).low
    · skip
      have hS : (fun w => w.heap[b]? = some (.cells (List.toArray [.int .i64 a.kind, .string (str a.text), .int .i64 a.n, .int .i64 a.at', .int .i64 a.md, .int .i64 a.tok.kind, .int .i64 a.tok.rule, .int .i64 a.tok.fr, .int .i64 a.tok.at', .int .i64 a.tok.to, .int .i64 a.tok.mode]) 66 (0, 0))) w := hg.own (b, .cells (List.toArray [.int .i64 a.kind, .string (str a.text), .int .i64 a.n, .int .i64 a.at', .int .i64 a.md, .int .i64 a.tok.kind, .int .i64 a.tok.rule, .int .i64 a.tok.fr, .int .i64 a.tok.at', .int .i64 a.tok.to, .int .i64 a.tok.mode]) 66 (0, 0)) (by simp)
      refine WO.nilA hS ?_
      refine WA.passM 8 hS ?_
      refine WA.passM 9 hS ?_
      refine WA.nil ?_
      repeat' (first
        | with_reducible refine QX.next ?_ | with_reducible refine WC.seq ?_ | with_reducible refine WC.region ?_ | with_reducible refine WC.block ?_ | with_reducible refine QX.bnorm ?_ | with_reducible refine QX.bret ?_ | with_reducible refine QX.ret ?_ | with_reducible refine QX.exit ?_ | with_reducible refine QX.bsame ?_ | with_reducible refine QX.bother rfl ?_
        | with_reducible refine WO.nil ?_ | with_reducible refine WC.skip ?_ | with_reducible refine WC.ret ?_ | with_reducible refine WC.exit ?_ | ((with_reducible refine WC.id ?_); first | refine WC.condT rfl ?_ | refine WC.condF rfl ?_)
        | ((with_reducible refine WQ.cid ?_); first | refine WQ.xG ?_ | refine WQ.pure ?_)
        | ((with_reducible refine WQ.gid ?_); first | refine WQ.on rfl ?_ | refine WQ.offN rfl rfl ?_)
        | ((with_reducible refine WO.cid ?_); first
          | refine WO.x ?_ | (refine op_alloc hg ?_; clear hg; intro b w hg; refine WO.fr ?_) | (refine op_boxA hg ?_; clear hg; intro b w hg; refine WO.fr ?_) | (refine op_box1 hg ?_; clear hg; intro b w hg; refine WO.fr ?_)
          | (refine op_store hg ?_; clear hg; intro w hg; refine WO.fr ?_; try simp only [List.set_cons_succ, List.set_cons_zero] at hg)
          | (refine op_storeA hg ?_; clear hg; intro w hg; refine WO.fr ?_; try simp only [over, List.take_zero, List.take_succ_cons, List.drop_zero, List.drop_succ_cons, List.nil_append, List.cons_append, List.append_nil, List.length_cons, List.length_nil, Nat.zero_add, Nat.reduceAdd, splice, cellsL] at hg)
          | (refine op_pure hg ?_; clear hg; intro w hg; refine WO.fr ?_) | (refine op_pureB hg ?_; clear hg; intro w hg c hc; cases c <;> refine WO.fr ?_))
        | ((with_reducible refine WO.gid ?_); first | refine WO.on rfl ?_ | refine WO.offN rfl rfl ?_))
      exact ret1 rfl ⟨_, f3, f4, rfl, fun _ => rfl, hF3, hF4, (((hg.front 2).front 1).front 2).head2⟩
    · skip
      have hS : (fun w => w.heap[b]? = some (.cells (List.toArray [.int .i64 a.kind, .string (str a.text), .int .i64 a.n, .int .i64 a.at', .int .i64 a.md, .int .i64 a.tok.kind, .int .i64 a.tok.rule, .int .i64 a.tok.fr, .int .i64 a.tok.at', .int .i64 a.tok.to, .int .i64 a.tok.mode]) 66 (0, 0))) w := hg.own (b, .cells (List.toArray [.int .i64 a.kind, .string (str a.text), .int .i64 a.n, .int .i64 a.at', .int .i64 a.md, .int .i64 a.tok.kind, .int .i64 a.tok.rule, .int .i64 a.tok.fr, .int .i64 a.tok.at', .int .i64 a.tok.to, .int .i64 a.tok.mode]) 66 (0, 0)) (by simp)
      refine WO.nilA hS ?_
      refine WA.passM 8 hS ?_
      refine WA.passM 9 hS ?_
      refine WA.nil ?_
      repeat' (first
        | with_reducible refine QX.next ?_ | with_reducible refine WC.seq ?_ | with_reducible refine WC.region ?_ | with_reducible refine WC.block ?_ | with_reducible refine QX.bnorm ?_ | with_reducible refine QX.bret ?_ | with_reducible refine QX.ret ?_ | with_reducible refine QX.exit ?_ | with_reducible refine QX.bsame ?_ | with_reducible refine QX.bother rfl ?_
        | with_reducible refine WO.nil ?_ | with_reducible refine WC.skip ?_ | with_reducible refine WC.ret ?_ | with_reducible refine WC.exit ?_ | ((with_reducible refine WC.id ?_); first | refine WC.condT rfl ?_ | refine WC.condF rfl ?_)
        | ((with_reducible refine WQ.cid ?_); first | refine WQ.xG ?_ | refine WQ.pure ?_)
        | ((with_reducible refine WQ.gid ?_); first | refine WQ.on rfl ?_ | refine WQ.offN rfl rfl ?_)
        | ((with_reducible refine WO.cid ?_); first
          | refine WO.x ?_ | (refine op_alloc hg ?_; clear hg; intro b w hg; refine WO.fr ?_) | (refine op_boxA hg ?_; clear hg; intro b w hg; refine WO.fr ?_) | (refine op_box1 hg ?_; clear hg; intro b w hg; refine WO.fr ?_)
          | (refine op_store hg ?_; clear hg; intro w hg; refine WO.fr ?_; try simp only [List.set_cons_succ, List.set_cons_zero] at hg)
          | (refine op_storeA hg ?_; clear hg; intro w hg; refine WO.fr ?_; try simp only [over, List.take_zero, List.take_succ_cons, List.drop_zero, List.drop_succ_cons, List.nil_append, List.cons_append, List.append_nil, List.length_cons, List.length_nil, Nat.zero_add, Nat.reduceAdd, splice, cellsL] at hg)
          | (refine op_pure hg ?_; clear hg; intro w hg; refine WO.fr ?_) | (refine op_pureB hg ?_; clear hg; intro w hg c hc; cases c <;> refine WO.fr ?_))
        | ((with_reducible refine WO.gid ?_); first | refine WO.on rfl ?_ | refine WO.offN rfl rfl ?_))
      exact ret1 rfl ⟨_, f3, f4, rfl, fun h => absurd (by rw [h]) heq, hF3, hF4, (((hg.front 2).front 1).front 2).head2⟩
  rw [if_neg hk1, if_neg hk1]
  by_cases hk2 : a.kind = 2
  · skip
    rw [if_pos hk2, if_pos hk2]
    repeat' (first
      | with_reducible refine QX.next ?_ | with_reducible refine WC.seq ?_ | with_reducible refine WC.region ?_ | with_reducible refine WC.block ?_ | with_reducible refine QX.bnorm ?_ | with_reducible refine QX.bret ?_ | with_reducible refine QX.ret ?_ | with_reducible refine QX.exit ?_ | with_reducible refine QX.bsame ?_ | with_reducible refine QX.bother rfl ?_
      | with_reducible refine WO.nil ?_ | with_reducible refine WC.skip ?_ | with_reducible refine WC.ret ?_ | with_reducible refine WC.exit ?_ | ((with_reducible refine WC.id ?_); first | refine WC.condT rfl ?_ | refine WC.condF rfl ?_)
      | ((with_reducible refine WQ.cid ?_); first | refine WQ.xG ?_ | refine WQ.pure ?_)
      | ((with_reducible refine WQ.gid ?_); first | refine WQ.on rfl ?_ | refine WQ.offN rfl rfl ?_)
      | ((with_reducible refine WO.cid ?_); first
        | refine WO.x ?_ | (refine op_alloc hg ?_; clear hg; intro b w hg; refine WO.fr ?_) | (refine op_boxA hg ?_; clear hg; intro b w hg; refine WO.fr ?_) | (refine op_box1 hg ?_; clear hg; intro b w hg; refine WO.fr ?_)
        | (refine op_store hg ?_; clear hg; intro w hg; refine WO.fr ?_; try simp only [List.set_cons_succ, List.set_cons_zero] at hg)
        | (refine op_storeA hg ?_; clear hg; intro w hg; refine WO.fr ?_; try simp only [over, List.take_zero, List.take_succ_cons, List.drop_zero, List.drop_succ_cons, List.nil_append, List.cons_append, List.append_nil, List.length_cons, List.length_nil, Nat.zero_add, Nat.reduceAdd, splice, cellsL] at hg)
        | (refine op_pure hg ?_; clear hg; intro w hg; refine WO.fr ?_) | (refine op_pureB hg ?_; clear hg; intro w hg c hc; cases c <;> refine WO.fr ?_))
      | ((with_reducible refine WO.gid ?_); first | refine WO.on rfl ?_ | refine WO.offN rfl rfl ?_))
    have s1 : ∀ {w : World}, (w.heap[b]? = some (.cells (List.toArray [.int .i64 a.kind, .string (str a.text), .int .i64 a.n, .int .i64 a.at', .int .i64 a.md, .int .i64 a.tok.kind, .int .i64 a.tok.rule, .int .i64 a.tok.fr, .int .i64 a.tok.at', .int .i64 a.tok.to, .int .i64 a.tok.mode]) 66 (0, 0))) → w.cell? ⟨b, 1, none⟩ = some (.string (str a.text)) := fun h => heap_cell h rfl
    have s2 : ∀ {w : World}, (w.heap[b]? = some (.cells (List.toArray [.int .i64 a.kind, .string (str a.text), .int .i64 a.n, .int .i64 a.at', .int .i64 a.md, .int .i64 a.tok.kind, .int .i64 a.tok.rule, .int .i64 a.tok.fr, .int .i64 a.tok.at', .int .i64 a.tok.to, .int .i64 a.tok.mode]) 66 (0, 0))) → w.cell? ⟨b, 2, none⟩ = some (.int .i64 a.n) := fun h => heap_cell h rfl
    have t1 : ∀ {w : World}, (w.heap[b]? = some (.cells (List.toArray [.int .i64 a.kind, .string (str a.text), .int .i64 a.n, .int .i64 a.at', .int .i64 a.md, .int .i64 a.tok.kind, .int .i64 a.tok.rule, .int .i64 a.tok.fr, .int .i64 a.tok.at', .int .i64 a.tok.to, .int .i64 a.tok.mode]) 66 (0, 0))) → Cells w ⟨b, 3, none⟩ [.int .i64 a.at', .int .i64 a.md] := fun h => heap_cells h rfl
    have t2 : ∀ {w : World}, (w.heap[b]? = some (.cells (List.toArray [.int .i64 a.kind, .string (str a.text), .int .i64 a.n, .int .i64 a.at', .int .i64 a.md, .int .i64 a.tok.kind, .int .i64 a.tok.rule, .int .i64 a.tok.fr, .int .i64 a.tok.at', .int .i64 a.tok.to, .int .i64 a.tok.mode]) 66 (0, 0))) → Cells w ⟨b, 5, none⟩ [.int .i64 a.tok.kind, .int .i64 a.tok.rule, .int .i64 a.tok.fr, .int .i64 a.tok.at', .int .i64 a.tok.to, .int .i64 a.tok.mode] := fun h => heap_cells h rfl
    refine WC.drawn (fun w => w.heap[b]? = some (.cells (List.toArray [.int .i64 a.kind, .string (str a.text), .int .i64 a.n, .int .i64 a.at', .int .i64 a.md, .int .i64 a.tok.kind, .int .i64 a.tok.rule, .int .i64 a.tok.fr, .int .i64 a.tok.at', .int .i64 a.tok.to, .int .i64 a.tok.mode]) 66 (0, 0))) [] hg ?_
    clear hg
    intro w hg
    have hS : (fun w => w.heap[b]? = some (.cells (List.toArray [.int .i64 a.kind, .string (str a.text), .int .i64 a.n, .int .i64 a.at', .int .i64 a.md, .int .i64 a.tok.kind, .int .i64 a.tok.rule, .int .i64 a.tok.fr, .int .i64 a.tok.at', .int .i64 a.tok.to, .int .i64 a.tok.mode]) 66 (0, 0))) w := hg.own (b, .cells (List.toArray [.int .i64 a.kind, .string (str a.text), .int .i64 a.n, .int .i64 a.at', .int .i64 a.md, .int .i64 a.tok.kind, .int .i64 a.tok.rule, .int .i64 a.tok.fr, .int .i64 a.tok.at', .int .i64 a.tok.to, .int .i64 a.tok.mode]) 66 (0, 0)) (by simp)
    refine WA.passM 0 hS ?_
    refine WA.passM 1 hS ?_
    refine WA.passM 4 hS ?_
    refine WA.passM 5 hS ?_
    refine WA.passM 2 hS ?_
    refine WA.passM 6 hS ?_
    refine WA.only 3 ?_
    refine op_call (wReclaim_spec a.n hF (hg.front 1).owns1 hW (by omega)) ?_
    rintro _ w ⟨f3, rfl, hF3, hg2⟩
    replace hg := (hg.front 1).callF hg2
    clear hg2 hS
    refine ⟨_, rfl, ?_⟩
    refine WO.fr ?_
    have hS : (fun w => w.heap[b]? = some (.cells (List.toArray [.int .i64 a.kind, .string (str a.text), .int .i64 a.n, .int .i64 a.at', .int .i64 a.md, .int .i64 a.tok.kind, .int .i64 a.tok.rule, .int .i64 a.tok.fr, .int .i64 a.tok.at', .int .i64 a.tok.to, .int .i64 a.tok.mode]) 66 (0, 0))) w := hg.own (b, .cells (List.toArray [.int .i64 a.kind, .string (str a.text), .int .i64 a.n, .int .i64 a.at', .int .i64 a.md, .int .i64 a.tok.kind, .int .i64 a.tok.rule, .int .i64 a.tok.fr, .int .i64 a.tok.at', .int .i64 a.tok.to, .int .i64 a.tok.mode]) 66 (0, 0)) (by simp)
    refine WO.nilA hS ?_
    refine WA.only 7 ?_
    refine op_call (dReclaim_spec a.n hD (hg.front 2).owns1 hV (by omega)) ?_
    rintro _ w ⟨f4, rfl, hF4, hg2⟩
    replace hg := (hg.front 2).callF hg2
    clear hg2 hS
    refine ⟨_, rfl, ?_⟩
    refine WO.fr ?_
    by_cases heq : (s.reclN a.n : Int) = t.reclN a.n
    · skip
      have hS : (fun w => w.heap[b]? = some (.cells (List.toArray [.int .i64 a.kind, .string (str a.text), .int .i64 a.n, .int .i64 a.at', .int .i64 a.md, .int .i64 a.tok.kind, .int .i64 a.tok.rule, .int .i64 a.tok.fr, .int .i64 a.tok.at', .int .i64 a.tok.to, .int .i64 a.tok.mode]) 66 (0, 0))) w := hg.own (b, .cells (List.toArray [.int .i64 a.kind, .string (str a.text), .int .i64 a.n, .int .i64 a.at', .int .i64 a.md, .int .i64 a.tok.kind, .int .i64 a.tok.rule, .int .i64 a.tok.fr, .int .i64 a.tok.at', .int .i64 a.tok.to, .int .i64 a.tok.mode]) 66 (0, 0)) (by simp)
      refine WO.nilA hS ?_
      refine WA.passM 8 hS ?_
      refine WA.passM 9 hS ?_
      refine WA.nil ?_
      repeat' (first
        | with_reducible refine QX.next ?_ | with_reducible refine WC.seq ?_ | with_reducible refine WC.region ?_ | with_reducible refine WC.block ?_ | with_reducible refine QX.bnorm ?_ | with_reducible refine QX.bret ?_ | with_reducible refine QX.ret ?_ | with_reducible refine QX.exit ?_ | with_reducible refine QX.bsame ?_ | with_reducible refine QX.bother rfl ?_
        | with_reducible refine WO.nil ?_ | with_reducible refine WC.skip ?_ | with_reducible refine WC.ret ?_ | with_reducible refine WC.exit ?_ | ((with_reducible refine WC.id ?_); first | refine WC.condT rfl ?_ | refine WC.condF rfl ?_)
        | ((with_reducible refine WQ.cid ?_); first | refine WQ.xG ?_ | refine WQ.pure ?_)
        | ((with_reducible refine WQ.gid ?_); first | refine WQ.on rfl ?_ | refine WQ.offN rfl rfl ?_)
        | ((with_reducible refine WO.cid ?_); first
          | refine WO.x ?_ | (refine op_alloc hg ?_; clear hg; intro b w hg; refine WO.fr ?_) | (refine op_boxA hg ?_; clear hg; intro b w hg; refine WO.fr ?_) | (refine op_box1 hg ?_; clear hg; intro b w hg; refine WO.fr ?_)
          | (refine op_store hg ?_; clear hg; intro w hg; refine WO.fr ?_; try simp only [List.set_cons_succ, List.set_cons_zero] at hg)
          | (refine op_storeA hg ?_; clear hg; intro w hg; refine WO.fr ?_; try simp only [over, List.take_zero, List.take_succ_cons, List.drop_zero, List.drop_succ_cons, List.nil_append, List.cons_append, List.append_nil, List.length_cons, List.length_nil, Nat.zero_add, Nat.reduceAdd, splice, cellsL] at hg)
          | (refine op_pure hg ?_; clear hg; intro w hg; refine WO.fr ?_) | (refine op_pureB hg ?_; clear hg; intro w hg c hc; cases c <;> refine WO.fr ?_))
        | ((with_reducible refine WO.gid ?_); first | refine WO.on rfl ?_ | refine WO.offN rfl rfl ?_))
      exact ret1 rfl ⟨_, f3, f4, rfl, fun _ => rfl, hF3, hF4, (((hg.front 2).front 1).front 2).head2⟩
    · skip
      have hS : (fun w => w.heap[b]? = some (.cells (List.toArray [.int .i64 a.kind, .string (str a.text), .int .i64 a.n, .int .i64 a.at', .int .i64 a.md, .int .i64 a.tok.kind, .int .i64 a.tok.rule, .int .i64 a.tok.fr, .int .i64 a.tok.at', .int .i64 a.tok.to, .int .i64 a.tok.mode]) 66 (0, 0))) w := hg.own (b, .cells (List.toArray [.int .i64 a.kind, .string (str a.text), .int .i64 a.n, .int .i64 a.at', .int .i64 a.md, .int .i64 a.tok.kind, .int .i64 a.tok.rule, .int .i64 a.tok.fr, .int .i64 a.tok.at', .int .i64 a.tok.to, .int .i64 a.tok.mode]) 66 (0, 0)) (by simp)
      refine WO.nilA hS ?_
      refine WA.passM 8 hS ?_
      refine WA.passM 9 hS ?_
      refine WA.nil ?_
      repeat' (first
        | with_reducible refine QX.next ?_ | with_reducible refine WC.seq ?_ | with_reducible refine WC.region ?_ | with_reducible refine WC.block ?_ | with_reducible refine QX.bnorm ?_ | with_reducible refine QX.bret ?_ | with_reducible refine QX.ret ?_ | with_reducible refine QX.exit ?_ | with_reducible refine QX.bsame ?_ | with_reducible refine QX.bother rfl ?_
        | with_reducible refine WO.nil ?_ | with_reducible refine WC.skip ?_ | with_reducible refine WC.ret ?_ | with_reducible refine WC.exit ?_ | ((with_reducible refine WC.id ?_); first | refine WC.condT rfl ?_ | refine WC.condF rfl ?_)
        | ((with_reducible refine WQ.cid ?_); first | refine WQ.xG ?_ | refine WQ.pure ?_)
        | ((with_reducible refine WQ.gid ?_); first | refine WQ.on rfl ?_ | refine WQ.offN rfl rfl ?_)
        | ((with_reducible refine WO.cid ?_); first
          | refine WO.x ?_ | (refine op_alloc hg ?_; clear hg; intro b w hg; refine WO.fr ?_) | (refine op_boxA hg ?_; clear hg; intro b w hg; refine WO.fr ?_) | (refine op_box1 hg ?_; clear hg; intro b w hg; refine WO.fr ?_)
          | (refine op_store hg ?_; clear hg; intro w hg; refine WO.fr ?_; try simp only [List.set_cons_succ, List.set_cons_zero] at hg)
          | (refine op_storeA hg ?_; clear hg; intro w hg; refine WO.fr ?_; try simp only [over, List.take_zero, List.take_succ_cons, List.drop_zero, List.drop_succ_cons, List.nil_append, List.cons_append, List.append_nil, List.length_cons, List.length_nil, Nat.zero_add, Nat.reduceAdd, splice, cellsL] at hg)
          | (refine op_pure hg ?_; clear hg; intro w hg; refine WO.fr ?_) | (refine op_pureB hg ?_; clear hg; intro w hg c hc; cases c <;> refine WO.fr ?_))
        | ((with_reducible refine WO.gid ?_); first | refine WO.on rfl ?_ | refine WO.offN rfl rfl ?_))
      exact ret1 rfl ⟨_, f3, f4, rfl, fun h => absurd (by rw [h]) heq, hF3, hF4, (((hg.front 2).front 1).front 2).head2⟩
  rw [if_neg hk2, if_neg hk2]
  by_cases hk3 : a.kind = 3
  · skip
    rw [if_pos hk3, if_pos hk3]
    repeat' (first
      | with_reducible refine QX.next ?_ | with_reducible refine WC.seq ?_ | with_reducible refine WC.region ?_ | with_reducible refine WC.block ?_ | with_reducible refine QX.bnorm ?_ | with_reducible refine QX.bret ?_ | with_reducible refine QX.ret ?_ | with_reducible refine QX.exit ?_ | with_reducible refine QX.bsame ?_ | with_reducible refine QX.bother rfl ?_
      | with_reducible refine WO.nil ?_ | with_reducible refine WC.skip ?_ | with_reducible refine WC.ret ?_ | with_reducible refine WC.exit ?_ | ((with_reducible refine WC.id ?_); first | refine WC.condT rfl ?_ | refine WC.condF rfl ?_)
      | ((with_reducible refine WQ.cid ?_); first | refine WQ.xG ?_ | refine WQ.pure ?_)
      | ((with_reducible refine WQ.gid ?_); first | refine WQ.on rfl ?_ | refine WQ.offN rfl rfl ?_)
      | ((with_reducible refine WO.cid ?_); first
        | refine WO.x ?_ | (refine op_alloc hg ?_; clear hg; intro b w hg; refine WO.fr ?_) | (refine op_boxA hg ?_; clear hg; intro b w hg; refine WO.fr ?_) | (refine op_box1 hg ?_; clear hg; intro b w hg; refine WO.fr ?_)
        | (refine op_store hg ?_; clear hg; intro w hg; refine WO.fr ?_; try simp only [List.set_cons_succ, List.set_cons_zero] at hg)
        | (refine op_storeA hg ?_; clear hg; intro w hg; refine WO.fr ?_; try simp only [over, List.take_zero, List.take_succ_cons, List.drop_zero, List.drop_succ_cons, List.nil_append, List.cons_append, List.append_nil, List.length_cons, List.length_nil, Nat.zero_add, Nat.reduceAdd, splice, cellsL] at hg)
        | (refine op_pure hg ?_; clear hg; intro w hg; refine WO.fr ?_) | (refine op_pureB hg ?_; clear hg; intro w hg c hc; cases c <;> refine WO.fr ?_))
      | ((with_reducible refine WO.gid ?_); first | refine WO.on rfl ?_ | refine WO.offN rfl rfl ?_))
    have s1 : ∀ {w : World}, (w.heap[b]? = some (.cells (List.toArray [.int .i64 a.kind, .string (str a.text), .int .i64 a.n, .int .i64 a.at', .int .i64 a.md, .int .i64 a.tok.kind, .int .i64 a.tok.rule, .int .i64 a.tok.fr, .int .i64 a.tok.at', .int .i64 a.tok.to, .int .i64 a.tok.mode]) 66 (0, 0))) → w.cell? ⟨b, 1, none⟩ = some (.string (str a.text)) := fun h => heap_cell h rfl
    have s2 : ∀ {w : World}, (w.heap[b]? = some (.cells (List.toArray [.int .i64 a.kind, .string (str a.text), .int .i64 a.n, .int .i64 a.at', .int .i64 a.md, .int .i64 a.tok.kind, .int .i64 a.tok.rule, .int .i64 a.tok.fr, .int .i64 a.tok.at', .int .i64 a.tok.to, .int .i64 a.tok.mode]) 66 (0, 0))) → w.cell? ⟨b, 2, none⟩ = some (.int .i64 a.n) := fun h => heap_cell h rfl
    have t1 : ∀ {w : World}, (w.heap[b]? = some (.cells (List.toArray [.int .i64 a.kind, .string (str a.text), .int .i64 a.n, .int .i64 a.at', .int .i64 a.md, .int .i64 a.tok.kind, .int .i64 a.tok.rule, .int .i64 a.tok.fr, .int .i64 a.tok.at', .int .i64 a.tok.to, .int .i64 a.tok.mode]) 66 (0, 0))) → Cells w ⟨b, 3, none⟩ [.int .i64 a.at', .int .i64 a.md] := fun h => heap_cells h rfl
    have t2 : ∀ {w : World}, (w.heap[b]? = some (.cells (List.toArray [.int .i64 a.kind, .string (str a.text), .int .i64 a.n, .int .i64 a.at', .int .i64 a.md, .int .i64 a.tok.kind, .int .i64 a.tok.rule, .int .i64 a.tok.fr, .int .i64 a.tok.at', .int .i64 a.tok.to, .int .i64 a.tok.mode]) 66 (0, 0))) → Cells w ⟨b, 5, none⟩ [.int .i64 a.tok.kind, .int .i64 a.tok.rule, .int .i64 a.tok.fr, .int .i64 a.tok.at', .int .i64 a.tok.to, .int .i64 a.tok.mode] := fun h => heap_cells h rfl
    refine WC.drawn (fun w => w.heap[b]? = some (.cells (List.toArray [.int .i64 a.kind, .string (str a.text), .int .i64 a.n, .int .i64 a.at', .int .i64 a.md, .int .i64 a.tok.kind, .int .i64 a.tok.rule, .int .i64 a.tok.fr, .int .i64 a.tok.at', .int .i64 a.tok.to, .int .i64 a.tok.mode]) 66 (0, 0))) [] hg ?_
    clear hg
    intro w hg
    have hS : (fun w => w.heap[b]? = some (.cells (List.toArray [.int .i64 a.kind, .string (str a.text), .int .i64 a.n, .int .i64 a.at', .int .i64 a.md, .int .i64 a.tok.kind, .int .i64 a.tok.rule, .int .i64 a.tok.fr, .int .i64 a.tok.at', .int .i64 a.tok.to, .int .i64 a.tok.mode]) 66 (0, 0))) w := hg.own (b, .cells (List.toArray [.int .i64 a.kind, .string (str a.text), .int .i64 a.n, .int .i64 a.at', .int .i64 a.md, .int .i64 a.tok.kind, .int .i64 a.tok.rule, .int .i64 a.tok.fr, .int .i64 a.tok.at', .int .i64 a.tok.to, .int .i64 a.tok.mode]) 66 (0, 0)) (by simp)
    refine WA.passM 0 hS ?_
    refine WA.passM 1 hS ?_
    refine WA.passM 3 hS ?_
    refine WA.passM 6 hS ?_
    refine WA.passM 7 hS ?_
    refine WA.passM 9 hS ?_
    refine WA.passM 2 hS ?_
    refine WA.passM 4 hS ?_
    refine WA.passM 8 hS ?_
    refine WA.passM 10 hS ?_
    refine WA.only 5 ?_
    refine op_call (wKeep_spec a.at' a.md a.tok hF (hg.front 1).owns1 hW (by omega)) ?_
    rintro _ w ⟨f3, rfl, hF3, hg2⟩
    replace hg := (hg.front 1).callF hg2
    clear hg2 hS
    refine ⟨_, rfl, ?_⟩
    refine WO.fr ?_
    have hS : (fun w => w.heap[b]? = some (.cells (List.toArray [.int .i64 a.kind, .string (str a.text), .int .i64 a.n, .int .i64 a.at', .int .i64 a.md, .int .i64 a.tok.kind, .int .i64 a.tok.rule, .int .i64 a.tok.fr, .int .i64 a.tok.at', .int .i64 a.tok.to, .int .i64 a.tok.mode]) 66 (0, 0))) w := hg.own (b, .cells (List.toArray [.int .i64 a.kind, .string (str a.text), .int .i64 a.n, .int .i64 a.at', .int .i64 a.md, .int .i64 a.tok.kind, .int .i64 a.tok.rule, .int .i64 a.tok.fr, .int .i64 a.tok.at', .int .i64 a.tok.to, .int .i64 a.tok.mode]) 66 (0, 0)) (by simp)
    refine WO.nilA hS ?_
    refine WA.only 11 ?_
    refine op_call (dKeep_spec a.at' a.md a.tok hD (hg.front 2).owns1 hV (by omega)) ?_
    rintro _ w ⟨f4, rfl, hF4, hg2⟩
    replace hg := (hg.front 2).callF hg2
    clear hg2 hS
    refine ⟨_, rfl, ?_⟩
    refine WO.fr ?_
    have hS : (fun w => w.heap[b]? = some (.cells (List.toArray [.int .i64 a.kind, .string (str a.text), .int .i64 a.n, .int .i64 a.at', .int .i64 a.md, .int .i64 a.tok.kind, .int .i64 a.tok.rule, .int .i64 a.tok.fr, .int .i64 a.tok.at', .int .i64 a.tok.to, .int .i64 a.tok.mode]) 66 (0, 0))) w := hg.own (b, .cells (List.toArray [.int .i64 a.kind, .string (str a.text), .int .i64 a.n, .int .i64 a.at', .int .i64 a.md, .int .i64 a.tok.kind, .int .i64 a.tok.rule, .int .i64 a.tok.fr, .int .i64 a.tok.at', .int .i64 a.tok.to, .int .i64 a.tok.mode]) 66 (0, 0)) (by simp)
    refine WO.nilA hS ?_
    refine WA.passM 12 hS ?_
    refine WA.passM 13 hS ?_
    refine WA.nil ?_
    repeat' (first
      | with_reducible refine QX.next ?_ | with_reducible refine WC.seq ?_ | with_reducible refine WC.region ?_ | with_reducible refine WC.block ?_ | with_reducible refine QX.bnorm ?_ | with_reducible refine QX.bret ?_ | with_reducible refine QX.ret ?_ | with_reducible refine QX.exit ?_ | with_reducible refine QX.bsame ?_ | with_reducible refine QX.bother rfl ?_
      | with_reducible refine WO.nil ?_ | with_reducible refine WC.skip ?_ | with_reducible refine WC.ret ?_ | with_reducible refine WC.exit ?_ | ((with_reducible refine WC.id ?_); first | refine WC.condT rfl ?_ | refine WC.condF rfl ?_)
      | ((with_reducible refine WQ.cid ?_); first | refine WQ.xG ?_ | refine WQ.pure ?_)
      | ((with_reducible refine WQ.gid ?_); first | refine WQ.on rfl ?_ | refine WQ.offN rfl rfl ?_)
      | ((with_reducible refine WO.cid ?_); first
        | refine WO.x ?_ | (refine op_alloc hg ?_; clear hg; intro b w hg; refine WO.fr ?_) | (refine op_boxA hg ?_; clear hg; intro b w hg; refine WO.fr ?_) | (refine op_box1 hg ?_; clear hg; intro b w hg; refine WO.fr ?_)
        | (refine op_store hg ?_; clear hg; intro w hg; refine WO.fr ?_; try simp only [List.set_cons_succ, List.set_cons_zero] at hg)
        | (refine op_storeA hg ?_; clear hg; intro w hg; refine WO.fr ?_; try simp only [over, List.take_zero, List.take_succ_cons, List.drop_zero, List.drop_succ_cons, List.nil_append, List.cons_append, List.append_nil, List.length_cons, List.length_nil, Nat.zero_add, Nat.reduceAdd, splice, cellsL] at hg)
        | (refine op_pure hg ?_; clear hg; intro w hg; refine WO.fr ?_) | (refine op_pureB hg ?_; clear hg; intro w hg c hc; cases c <;> refine WO.fr ?_))
      | ((with_reducible refine WO.gid ?_); first | refine WO.on rfl ?_ | refine WO.offN rfl rfl ?_))
    exact ret1 rfl ⟨_, f3, f4, rfl, fun h => by rw [h]; simp, hF3, hF4, (((hg.front 2).front 1).front 2).head2⟩
  rw [if_neg hk3, if_neg hk3]
  repeat' (first
    | with_reducible refine QX.next ?_ | with_reducible refine WC.seq ?_ | with_reducible refine WC.region ?_ | with_reducible refine WC.block ?_ | with_reducible refine QX.bnorm ?_ | with_reducible refine QX.bret ?_ | with_reducible refine QX.ret ?_ | with_reducible refine QX.exit ?_ | with_reducible refine QX.bsame ?_ | with_reducible refine QX.bother rfl ?_
    | with_reducible refine WO.nil ?_ | with_reducible refine WC.skip ?_ | with_reducible refine WC.ret ?_ | with_reducible refine WC.exit ?_ | ((with_reducible refine WC.id ?_); first | refine WC.condT rfl ?_ | refine WC.condF rfl ?_)
    | ((with_reducible refine WQ.cid ?_); first | refine WQ.xG ?_ | refine WQ.pure ?_)
    | ((with_reducible refine WQ.gid ?_); first | refine WQ.on rfl ?_ | refine WQ.offN rfl rfl ?_)
    | ((with_reducible refine WO.cid ?_); first
      | refine WO.x ?_ | (refine op_alloc hg ?_; clear hg; intro b w hg; refine WO.fr ?_) | (refine op_boxA hg ?_; clear hg; intro b w hg; refine WO.fr ?_) | (refine op_box1 hg ?_; clear hg; intro b w hg; refine WO.fr ?_)
      | (refine op_store hg ?_; clear hg; intro w hg; refine WO.fr ?_; try simp only [List.set_cons_succ, List.set_cons_zero] at hg)
      | (refine op_storeA hg ?_; clear hg; intro w hg; refine WO.fr ?_; try simp only [over, List.take_zero, List.take_succ_cons, List.drop_zero, List.drop_succ_cons, List.nil_append, List.cons_append, List.append_nil, List.length_cons, List.length_nil, Nat.zero_add, Nat.reduceAdd, splice, cellsL] at hg)
      | (refine op_pure hg ?_; clear hg; intro w hg; refine WO.fr ?_) | (refine op_pureB hg ?_; clear hg; intro w hg c hc; cases c <;> refine WO.fr ?_))
    | ((with_reducible refine WO.gid ?_); first | refine WO.on rfl ?_ | refine WO.offN rfl rfl ?_))
  have s1 : ∀ {w : World}, (w.heap[b]? = some (.cells (List.toArray [.int .i64 a.kind, .string (str a.text), .int .i64 a.n, .int .i64 a.at', .int .i64 a.md, .int .i64 a.tok.kind, .int .i64 a.tok.rule, .int .i64 a.tok.fr, .int .i64 a.tok.at', .int .i64 a.tok.to, .int .i64 a.tok.mode]) 66 (0, 0))) → w.cell? ⟨b, 1, none⟩ = some (.string (str a.text)) := fun h => heap_cell h rfl
  have s2 : ∀ {w : World}, (w.heap[b]? = some (.cells (List.toArray [.int .i64 a.kind, .string (str a.text), .int .i64 a.n, .int .i64 a.at', .int .i64 a.md, .int .i64 a.tok.kind, .int .i64 a.tok.rule, .int .i64 a.tok.fr, .int .i64 a.tok.at', .int .i64 a.tok.to, .int .i64 a.tok.mode]) 66 (0, 0))) → w.cell? ⟨b, 2, none⟩ = some (.int .i64 a.n) := fun h => heap_cell h rfl
  have t1 : ∀ {w : World}, (w.heap[b]? = some (.cells (List.toArray [.int .i64 a.kind, .string (str a.text), .int .i64 a.n, .int .i64 a.at', .int .i64 a.md, .int .i64 a.tok.kind, .int .i64 a.tok.rule, .int .i64 a.tok.fr, .int .i64 a.tok.at', .int .i64 a.tok.to, .int .i64 a.tok.mode]) 66 (0, 0))) → Cells w ⟨b, 3, none⟩ [.int .i64 a.at', .int .i64 a.md] := fun h => heap_cells h rfl
  have t2 : ∀ {w : World}, (w.heap[b]? = some (.cells (List.toArray [.int .i64 a.kind, .string (str a.text), .int .i64 a.n, .int .i64 a.at', .int .i64 a.md, .int .i64 a.tok.kind, .int .i64 a.tok.rule, .int .i64 a.tok.fr, .int .i64 a.tok.at', .int .i64 a.tok.to, .int .i64 a.tok.mode]) 66 (0, 0))) → Cells w ⟨b, 5, none⟩ [.int .i64 a.tok.kind, .int .i64 a.tok.rule, .int .i64 a.tok.fr, .int .i64 a.tok.at', .int .i64 a.tok.to, .int .i64 a.tok.mode] := fun h => heap_cells h rfl
  refine WC.drawn (fun w => w.heap[b]? = some (.cells (List.toArray [.int .i64 a.kind, .string (str a.text), .int .i64 a.n, .int .i64 a.at', .int .i64 a.md, .int .i64 a.tok.kind, .int .i64 a.tok.rule, .int .i64 a.tok.fr, .int .i64 a.tok.at', .int .i64 a.tok.to, .int .i64 a.tok.mode]) 66 (0, 0))) [] hg ?_
  clear hg
  intro w hg
  have hS : (fun w => w.heap[b]? = some (.cells (List.toArray [.int .i64 a.kind, .string (str a.text), .int .i64 a.n, .int .i64 a.at', .int .i64 a.md, .int .i64 a.tok.kind, .int .i64 a.tok.rule, .int .i64 a.tok.fr, .int .i64 a.tok.at', .int .i64 a.tok.to, .int .i64 a.tok.mode]) 66 (0, 0))) w := hg.own (b, .cells (List.toArray [.int .i64 a.kind, .string (str a.text), .int .i64 a.n, .int .i64 a.at', .int .i64 a.md, .int .i64 a.tok.kind, .int .i64 a.tok.rule, .int .i64 a.tok.fr, .int .i64 a.tok.at', .int .i64 a.tok.to, .int .i64 a.tok.mode]) 66 (0, 0)) (by simp)
  refine WA.passM 0 hS ?_
  refine WA.passM 1 hS ?_
  refine WA.passM 4 hS ?_
  refine WA.passM 5 hS ?_
  refine WA.passM 2 hS ?_
  refine WA.passM 6 hS ?_
  refine WA.only 3 ?_
  refine op_call (wMake_spec a.n hF (hg.front 1).owns1 hW (by omega)) ?_
  rintro _ w ⟨f3, rfl, hF3, hg2⟩
  replace hg := (hg.front 1).callF hg2
  clear hg2 hS
  refine ⟨_, rfl, ?_⟩
  refine WO.fr ?_
  have hS : (fun w => w.heap[b]? = some (.cells (List.toArray [.int .i64 a.kind, .string (str a.text), .int .i64 a.n, .int .i64 a.at', .int .i64 a.md, .int .i64 a.tok.kind, .int .i64 a.tok.rule, .int .i64 a.tok.fr, .int .i64 a.tok.at', .int .i64 a.tok.to, .int .i64 a.tok.mode]) 66 (0, 0))) w := hg.own (b, .cells (List.toArray [.int .i64 a.kind, .string (str a.text), .int .i64 a.n, .int .i64 a.at', .int .i64 a.md, .int .i64 a.tok.kind, .int .i64 a.tok.rule, .int .i64 a.tok.fr, .int .i64 a.tok.at', .int .i64 a.tok.to, .int .i64 a.tok.mode]) 66 (0, 0)) (by simp)
  refine WO.nilA hS ?_
  refine WA.only 7 ?_
  refine op_call (dMake_spec a.n hD (hg.front 2).owns1 hV (by omega)) ?_
  rintro _ w ⟨f4, rfl, hF4, hg2⟩
  replace hg := (hg.front 2).callF hg2
  clear hg2 hS
  refine ⟨_, rfl, ?_⟩
  refine WO.fr ?_
  have hS : (fun w => w.heap[b]? = some (.cells (List.toArray [.int .i64 a.kind, .string (str a.text), .int .i64 a.n, .int .i64 a.at', .int .i64 a.md, .int .i64 a.tok.kind, .int .i64 a.tok.rule, .int .i64 a.tok.fr, .int .i64 a.tok.at', .int .i64 a.tok.to, .int .i64 a.tok.mode]) 66 (0, 0))) w := hg.own (b, .cells (List.toArray [.int .i64 a.kind, .string (str a.text), .int .i64 a.n, .int .i64 a.at', .int .i64 a.md, .int .i64 a.tok.kind, .int .i64 a.tok.rule, .int .i64 a.tok.fr, .int .i64 a.tok.at', .int .i64 a.tok.to, .int .i64 a.tok.mode]) 66 (0, 0)) (by simp)
  refine WO.nilA hS ?_
  refine WA.passM 8 hS ?_
  refine WA.passM 9 hS ?_
  refine WA.nil ?_
  repeat' (first
    | with_reducible refine QX.next ?_ | with_reducible refine WC.seq ?_ | with_reducible refine WC.region ?_ | with_reducible refine WC.block ?_ | with_reducible refine QX.bnorm ?_ | with_reducible refine QX.bret ?_ | with_reducible refine QX.ret ?_ | with_reducible refine QX.exit ?_ | with_reducible refine QX.bsame ?_ | with_reducible refine QX.bother rfl ?_
    | with_reducible refine WO.nil ?_ | with_reducible refine WC.skip ?_ | with_reducible refine WC.ret ?_ | with_reducible refine WC.exit ?_ | ((with_reducible refine WC.id ?_); first | refine WC.condT rfl ?_ | refine WC.condF rfl ?_)
    | ((with_reducible refine WQ.cid ?_); first | refine WQ.xG ?_ | refine WQ.pure ?_)
    | ((with_reducible refine WQ.gid ?_); first | refine WQ.on rfl ?_ | refine WQ.offN rfl rfl ?_)
    | ((with_reducible refine WO.cid ?_); first
      | refine WO.x ?_ | (refine op_alloc hg ?_; clear hg; intro b w hg; refine WO.fr ?_) | (refine op_boxA hg ?_; clear hg; intro b w hg; refine WO.fr ?_) | (refine op_box1 hg ?_; clear hg; intro b w hg; refine WO.fr ?_)
      | (refine op_store hg ?_; clear hg; intro w hg; refine WO.fr ?_; try simp only [List.set_cons_succ, List.set_cons_zero] at hg)
      | (refine op_storeA hg ?_; clear hg; intro w hg; refine WO.fr ?_; try simp only [over, List.take_zero, List.take_succ_cons, List.drop_zero, List.drop_succ_cons, List.nil_append, List.cons_append, List.append_nil, List.length_cons, List.length_nil, Nat.zero_add, Nat.reduceAdd, splice, cellsL] at hg)
      | (refine op_pure hg ?_; clear hg; intro w hg; refine WO.fr ?_) | (refine op_pureB hg ?_; clear hg; intro w hg c hc; cases c <;> refine WO.fr ?_))
    | ((with_reducible refine WO.gid ?_); first | refine WO.on rfl ?_ | refine WO.offN rfl rfl ?_))
  exact ret1 rfl ⟨_, f3, f4, rfl, fun h => by rw [h]; simp, hF3, hF4, (((hg.front 2).front 1).front 2).head2⟩
end
end Go.Proofs.Ytdjepfpmoeecaaa
