/- The ring: New, Raise, Put, Text, Copy. -/
import Derived.Test.YtdjepfpmoeecaaaWiA
namespace Go.Proofs.Ytdjepfpmoeecaaa
open Go Go.RowKit
set_option maxRecDepth 10000
set_option linter.unusedSimpArgs false
set_option linter.unusedVariables false

theorem bcells_rep (n : Nat) : bcells (List.replicate n 0) = List.replicate n (.int .u8 0) := by simp [bcells]
theorem rNew_spec (w0 : World) (n : Nat) (h1 : 1 ≤ n) (h2 : n ≤ 65536) : Calls Try.prog 49 #[.int .i64 n] w0 fun e w' => ∃ pr f, e = .returned (.pointer (some ⟨pr, 0, none⟩)) ∧ RingF pr n (List.replicate n 0) 0 0 f ∧ Goes w0 [] [f] w' := by
  have hg := Goes.refl w0
  refine enter Try.func49 rfl (by simp only [Try.ntmps49, List.length_cons, List.length_nil, Nat.reduceAdd, Nat.reduceSub, List.replicate_succ, List.replicate_zero, List.cons_append, List.nil_append]; exact rfl) ?_
  repeat' (first
    | with_reducible refine QX.next ?_ | with_reducible refine WC.seq ?_ | with_reducible refine WC.region ?_ | with_reducible refine WC.block ?_ | with_reducible refine QX.bnorm ?_ | with_reducible refine QX.bret ?_ | with_reducible refine QX.ret ?_ | with_reducible refine QX.exit ?_ | with_reducible refine QX.bsame ?_ | with_reducible refine QX.bother rfl ?_
    | with_reducible refine WO.nil ?_ | with_reducible refine WC.skip ?_ | with_reducible refine WC.ret ?_ | with_reducible refine WC.exit ?_ | ((with_reducible refine WC.id ?_); first | refine WC.condT rfl ?_ | refine WC.condF rfl ?_)
    | (refine WC.quietG hg ?_; clear hg) | ((with_reducible refine WQ.nilG ?_); intro w hg)
    | ((with_reducible refine WQ.cid ?_); first | refine WQ.xG ?_ | refine WQ.pure ?_)
    | ((with_reducible refine WQ.gid ?_); first | refine WQ.on rfl ?_ | refine WQ.offN rfl rfl ?_)
    | ((with_reducible refine WO.cid ?_); first
      | refine WO.x ?_ | (refine op_alloc hg ?_; clear hg; intro b w hg; refine WO.fr ?_) | (refine op_boxA hg ?_; clear hg; intro b w hg; refine WO.fr ?_) | (refine op_box1 hg ?_; clear hg; intro b w hg; refine WO.fr ?_)
      | (refine op_store hg ?_; clear hg; intro w hg; refine WO.fr ?_; try simp only [List.set_cons_succ, List.set_cons_zero] at hg)
      | (refine op_storeA hg ?_; clear hg; intro w hg; refine WO.fr ?_; try simp only [over, List.take_zero, List.take_succ_cons, List.drop_zero, List.drop_succ_cons, List.nil_append, List.cons_append, List.append_nil, List.length_cons, List.length_nil, Nat.zero_add, Nat.reduceAdd, splice, cellsL] at hg)
      | (refine op_pure hg ?_; clear hg; intro w hg; refine WO.fr ?_) | (refine op_pureB hg ?_; clear hg; intro w hg c hc; cases c <;> refine WO.fr ?_))
    | ((with_reducible refine WO.gid ?_); first | refine WO.on rfl ?_ | refine WO.offN rfl rfl ?_))
  rw [show min (max (n : Int) 1) 65536 = (n : Int) from by omega]
  refine op_make hg ?_
  clear hg
  intro g w hg
  refine WO.fr ?_
  repeat' (first
    | with_reducible refine QX.next ?_ | with_reducible refine WC.seq ?_ | with_reducible refine WC.region ?_ | with_reducible refine WC.block ?_ | with_reducible refine QX.bnorm ?_ | with_reducible refine QX.bret ?_ | with_reducible refine QX.ret ?_ | with_reducible refine QX.exit ?_ | with_reducible refine QX.bsame ?_ | with_reducible refine QX.bother rfl ?_
    | with_reducible refine WO.nil ?_ | with_reducible refine WC.skip ?_ | with_reducible refine WC.ret ?_ | with_reducible refine WC.exit ?_ | ((with_reducible refine WC.id ?_); first | refine WC.condT rfl ?_ | refine WC.condF rfl ?_)
    | (refine WC.quietG hg ?_; clear hg) | ((with_reducible refine WQ.nilG ?_); intro w hg)
    | ((with_reducible refine WQ.cid ?_); first | refine WQ.xG ?_ | refine WQ.pure ?_)
    | ((with_reducible refine WQ.gid ?_); first | refine WQ.on rfl ?_ | refine WQ.offN rfl rfl ?_)
    | ((with_reducible refine WO.cid ?_); first
      | refine WO.x ?_ | (refine op_alloc hg ?_; clear hg; intro b w hg; refine WO.fr ?_) | (refine op_boxA hg ?_; clear hg; intro b w hg; refine WO.fr ?_) | (refine op_box1 hg ?_; clear hg; intro b w hg; refine WO.fr ?_)
      | (refine op_store hg ?_; clear hg; intro w hg; refine WO.fr ?_; try simp only [List.set_cons_succ, List.set_cons_zero] at hg)
      | (refine op_storeA hg ?_; clear hg; intro w hg; refine WO.fr ?_; try simp only [over, List.take_zero, List.take_succ_cons, List.drop_zero, List.drop_succ_cons, List.nil_append, List.cons_append, List.append_nil, List.length_cons, List.length_nil, Nat.zero_add, Nat.reduceAdd, splice, cellsL] at hg)
      | (refine op_pure hg ?_; clear hg; intro w hg; refine WO.fr ?_) | (refine op_pureB hg ?_; clear hg; intro w hg c hc; cases c <;> refine WO.fr ?_))
    | ((with_reducible refine WO.gid ?_); first | refine WO.on rfl ?_ | refine WO.offN rfl rfl ?_))
  refine ret1 rfl ⟨b, [(b, _), (g, _)], rfl, ⟨g, rfl⟩, ?_⟩
  rw [bcells_rep]
  exact hg.perm (by simp)

section
variable {pr n fl en : Nat} {bl : List UInt8} {f : Frag} {w0 : World}
set_option maxHeartbeats 1000000 in
theorem rRaise_spec (t : Int) (hF : RingF pr n bl fl en f) (hO : Owns w0 f) (hn : 0 < n) (hle : fl ≤ en) (he : en ≤ 1000000) : Calls Try.prog 69 #[.pointer (some ⟨pr, 0, none⟩), .int .i64 t] w0 fun e w' => ∃ f', e = .returned (.int .i64 (min (max t fl) en - fl)) ∧ RingF pr n bl (min (max t fl) en).toNat en f' ∧ Goes w0 (keys f) [f'] w' := by
  obtain ⟨g, rfl⟩ := hF
  have hg := hO.goes
  replace hg : Goes w0 _ [[(pr, .cells [.slice (some ⟨g, 0, none⟩) n n, .int .i64 (fl : Nat), .int .i64 (en : Nat)].toArray 112 (0, 0))], [(g, .cells (bcells bl).toArray 5 (0, 0))]] w0 := hg.perm (by simp)
  have p1 : ∀ {w}, Goes w0 (keys [(pr, .cells [.slice (some ⟨g, 0, none⟩) n n, .int .i64 (fl : Nat), .int .i64 (en : Nat)].toArray 112 (0, 0)), (g, .cells (bcells bl).toArray 5 (0, 0))]) [[(pr, .cells [.slice (some ⟨g, 0, none⟩) n n, .int .i64 (fl : Nat), .int .i64 (en : Nat)].toArray 112 (0, 0))], [(g, .cells (bcells bl).toArray 5 (0, 0))]] w → Calls Try.prog 77 #[.pointer (some ⟨pr, 0, none⟩)] w _ := fun h => rmade_cell (heap_cell (h.own (pr, .cells [.slice (some ⟨g, 0, none⟩) n n, .int .i64 (fl : Nat), .int .i64 (en : Nat)].toArray 112 (0, 0)) (by simp)) rfl) hn
  obtain ⟨v, hv⟩ : ∃ v : Nat, min (max t (fl : Int)) en = v := ⟨(min (max t (fl : Int)) en).toNat, by omega⟩
  refine enter Try.func69 rfl (by simp only [Try.ntmps69, List.length_cons, List.length_nil, Nat.reduceAdd, Nat.reduceSub, List.replicate_succ, List.replicate_zero, List.cons_append, List.nil_append]; exact rfl) ?_
  repeat' (first
    | with_reducible refine QX.next ?_ | with_reducible refine WC.seq ?_ | with_reducible refine WC.region ?_ | with_reducible refine WC.block ?_ | with_reducible refine QX.bnorm ?_ | with_reducible refine QX.bret ?_ | with_reducible refine QX.ret ?_ | with_reducible refine QX.exit ?_ | with_reducible refine QX.bsame ?_ | with_reducible refine QX.bother rfl ?_
    | with_reducible refine WO.nil ?_ | with_reducible refine WC.skip ?_ | with_reducible refine WC.ret ?_ | with_reducible refine WC.exit ?_ | ((with_reducible refine WC.id ?_); first | refine WC.condT rfl ?_ | refine WC.condF rfl ?_)
    | ((with_reducible refine WQ.cid ?_); first | refine WQ.xG ?_ | refine WQ.pure ?_)
    | ((with_reducible refine WQ.gid ?_); first | refine WQ.on rfl ?_ | refine WQ.offN rfl rfl ?_)
    | ((with_reducible refine WO.cid ?_); first
      | refine WO.x ?_ | (refine op_alloc hg ?_; clear hg; intro b w hg; refine WO.fr ?_) | (refine op_boxA hg ?_; clear hg; intro b w hg; refine WO.fr ?_) | (refine op_box1 hg ?_; clear hg; intro b w hg; refine WO.fr ?_)
      | (refine op_store hg ?_; clear hg; intro w hg; refine WO.fr ?_; try simp only [List.set_cons_succ, List.set_cons_zero] at hg)
      | (refine op_storeA hg ?_; clear hg; intro w hg; refine WO.fr ?_; try simp only [over, List.take_zero, List.take_succ_cons, List.drop_zero, List.drop_succ_cons, List.nil_append, List.cons_append, List.append_nil, List.length_cons, List.length_nil, Nat.zero_add, Nat.reduceAdd, splice, cellsL] at hg)
      | (refine op_pure hg ?_; clear hg; intro w hg; refine WO.fr ?_) | (refine op_pureB hg ?_; clear hg; intro w hg c hc; cases c <;> refine WO.fr ?_))
    | ((with_reducible refine WO.gid ?_); first | refine WO.on rfl ?_ | refine WO.offN rfl rfl ?_))
  have s1 : ∀ {w : World}, (w.heap[pr]? = some (.cells [.slice (some ⟨g, 0, none⟩) n n, .int .i64 (fl : Nat), .int .i64 (en : Nat)].toArray 112 (0, 0)) ∧ w.heap[g]? = some (.cells (bcells bl).toArray 5 (0, 0))) → w.cell? ⟨pr, 1, none⟩ = some (.int .i64 fl) := fun h => heap_cell h.1 rfl
  have s2 : ∀ {w : World}, (w.heap[pr]? = some (.cells [.slice (some ⟨g, 0, none⟩) n n, .int .i64 (fl : Nat), .int .i64 (en : Nat)].toArray 112 (0, 0)) ∧ w.heap[g]? = some (.cells (bcells bl).toArray 5 (0, 0))) → w.cell? ⟨pr, 2, none⟩ = some (.int .i64 en) := fun h => heap_cell h.1 rfl
  refine WC.drawn (fun w => w.heap[pr]? = some (.cells [.slice (some ⟨g, 0, none⟩) n n, .int .i64 (fl : Nat), .int .i64 (en : Nat)].toArray 112 (0, 0)) ∧ w.heap[g]? = some (.cells (bcells bl).toArray 5 (0, 0))) [14] hg ?_
  clear hg
  intro w hg
  have hS : (fun w => w.heap[pr]? = some (.cells [.slice (some ⟨g, 0, none⟩) n n, .int .i64 (fl : Nat), .int .i64 (en : Nat)].toArray 112 (0, 0)) ∧ w.heap[g]? = some (.cells (bcells bl).toArray 5 (0, 0))) w := ⟨hg.own (pr, .cells [.slice (some ⟨g, 0, none⟩) n n, .int .i64 (fl : Nat), .int .i64 (en : Nat)].toArray 112 (0, 0)) (by simp), hg.own (g, .cells (bcells bl).toArray 5 (0, 0)) (by simp)⟩
  refine WA.passM 0 hS ?_
  refine WA.passM 1 hS ?_
  refine WA.passM 2 hS ?_
  refine WA.passM 3 hS ?_
  refine WA.passM 4 hS ?_
  refine WA.passM 7 hS ?_
  refine WA.passM 8 hS ?_
  refine WA.passM 9 hS ?_
  refine WA.passM 5 hS ?_
  refine WA.passM 6 hS ?_
  refine WA.passM 10 hS ?_
  refine WA.passM 11 hS ?_
  refine WA.passM 12 hS ?_
  refine WA.passM 13 hS ?_
  refine WA.only 14 ?_
  refine op_store hg ?_
  clear hg hS
  intro w hg
  simp only [List.set_cons_succ, List.set_cons_zero] at hg
  rw [hv] at hg ⊢
  refine WO.fr ?_
  refine WO.nilL ?_
  refine WA.nil ?_
  repeat' (first
    | with_reducible refine QX.next ?_ | with_reducible refine WC.seq ?_ | with_reducible refine WC.region ?_ | with_reducible refine WC.block ?_ | with_reducible refine QX.bnorm ?_ | with_reducible refine QX.bret ?_ | with_reducible refine QX.ret ?_ | with_reducible refine QX.exit ?_ | with_reducible refine QX.bsame ?_ | with_reducible refine QX.bother rfl ?_
    | with_reducible refine WO.nil ?_ | with_reducible refine WC.skip ?_ | with_reducible refine WC.ret ?_ | with_reducible refine WC.exit ?_ | ((with_reducible refine WC.id ?_); first | refine WC.condT rfl ?_ | refine WC.condF rfl ?_)
    | (refine WC.quietG hg ?_; clear hg) | ((with_reducible refine WQ.nilG ?_); intro w hg)
    | ((with_reducible refine WQ.cid ?_); first | refine WQ.xG ?_ | refine WQ.pure ?_)
    | ((with_reducible refine WQ.gid ?_); first | refine WQ.on rfl ?_ | refine WQ.offN rfl rfl ?_)
    | ((with_reducible refine WO.cid ?_); first
      | refine WO.x ?_ | (refine op_alloc hg ?_; clear hg; intro b w hg; refine WO.fr ?_) | (refine op_boxA hg ?_; clear hg; intro b w hg; refine WO.fr ?_) | (refine op_box1 hg ?_; clear hg; intro b w hg; refine WO.fr ?_)
      | (refine op_store hg ?_; clear hg; intro w hg; refine WO.fr ?_; try simp only [List.set_cons_succ, List.set_cons_zero] at hg)
      | (refine op_storeA hg ?_; clear hg; intro w hg; refine WO.fr ?_; try simp only [over, List.take_zero, List.take_succ_cons, List.drop_zero, List.drop_succ_cons, List.nil_append, List.cons_append, List.append_nil, List.length_cons, List.length_nil, Nat.zero_add, Nat.reduceAdd, splice, cellsL] at hg)
      | (refine op_pure hg ?_; clear hg; intro w hg; refine WO.fr ?_) | (refine op_pureB hg ?_; clear hg; intro w hg c hc; cases c <;> refine WO.fr ?_))
    | ((with_reducible refine WO.gid ?_); first | refine WO.on rfl ?_ | refine WO.offN rfl rfl ?_))
  refine ret1 rfl ⟨[(pr, _), (g, _)], rfl, ⟨g, rfl⟩, ?_⟩
  rw [Int.toNat_natCast]
  exact hg.perm (by simp)

set_option maxHeartbeats 2000000 in
theorem rPut_spec2 {all : List UInt8} (s : List UInt8) (hF : RingF pr n bl fl all.length f) (hO : Owns w0 f) (hR : RingOK n bl fl all) (hn : n ≤ 100000) (hal : all.length ≤ 100000) (hsl : s.length ≤ 1000000) :
    Calls Try.prog 52 #[.pointer (some ⟨pr, 0, none⟩), .string (str s)] w0 fun e w' => ∃ bl' f', e = .returned (.int .i64 (min s.length (n - (all.length - fl)) : Nat)) ∧
      RingF pr n bl' fl (all ++ s.take (min s.length (n - (all.length - fl)))).length f' ∧ RingOK n bl' fl (all ++ s.take (min s.length (n - (all.length - fl)))) ∧ Goes w0 (keys f) [f'] w' := by
  have hF0 := hF
  obtain ⟨g, rfl⟩ := hF
  have hg := hO.goes
  have hfle := hR.fle
  have hfit := hR.fit
  have hpos := hR.pos
  have p1 : ∀ {w}, Goes w0 (keys [(pr, .cells [.slice (some ⟨g, 0, none⟩) n n, .int .i64 (fl : Nat), .int .i64 (all.length : Nat)].toArray 112 (0, 0)), (g, .cells (bcells bl).toArray 5 (0, 0))]) [[(pr, .cells [.slice (some ⟨g, 0, none⟩) n n, .int .i64 (fl : Nat), .int .i64 (all.length : Nat)].toArray 112 (0, 0)), (g, .cells (bcells bl).toArray 5 (0, 0))]] w → Calls Try.prog 73 #[.pointer (some ⟨pr, 0, none⟩)] w _ := fun h => rLeft_spec hF0 (fun p hp => h.own p (by simpa using hp)) ⟨hpos, by omega⟩ (by omega)
  obtain ⟨m, hm⟩ : ∃ m : Nat, min s.length (n - (all.length - fl)) = m := ⟨_, rfl⟩
  rw [hm]
  have hss := str_size s
  refine enter Try.func52 rfl (by simp only [Try.ntmps52, List.length_cons, List.length_nil, Nat.reduceAdd, Nat.reduceSub, List.replicate_succ, List.replicate_zero, List.cons_append, List.nil_append]; exact rfl) ?_
  repeat' (first
    | with_reducible refine QX.next ?_ | with_reducible refine WC.seq ?_ | with_reducible refine WC.region ?_ | with_reducible refine WC.block ?_ | with_reducible refine QX.bnorm ?_ | with_reducible refine QX.bret ?_ | with_reducible refine QX.ret ?_ | with_reducible refine QX.exit ?_ | with_reducible refine QX.bsame ?_ | with_reducible refine QX.bother rfl ?_
    | with_reducible refine WO.nil ?_ | with_reducible refine WC.skip ?_ | with_reducible refine WC.ret ?_ | with_reducible refine WC.exit ?_ | ((with_reducible refine WC.id ?_); first | refine WC.condT rfl ?_ | refine WC.condF rfl ?_)
    | (refine WC.quietG hg ?_; clear hg) | ((with_reducible refine WQ.nilG ?_); intro w hg)
    | ((with_reducible refine WQ.cid ?_); first | refine WQ.xG ?_ | refine WQ.pure ?_)
    | ((with_reducible refine WQ.gid ?_); first | refine WQ.on rfl ?_ | refine WQ.offN rfl rfl ?_)
    | ((with_reducible refine WO.cid ?_); first
      | refine WO.x ?_ | (refine op_alloc hg ?_; clear hg; intro b w hg; refine WO.fr ?_) | (refine op_boxA hg ?_; clear hg; intro b w hg; refine WO.fr ?_) | (refine op_box1 hg ?_; clear hg; intro b w hg; refine WO.fr ?_)
      | (refine op_store hg ?_; clear hg; intro w hg; refine WO.fr ?_; try simp only [List.set_cons_succ, List.set_cons_zero] at hg)
      | (refine op_storeA hg ?_; clear hg; intro w hg; refine WO.fr ?_; try simp only [over, List.take_zero, List.take_succ_cons, List.drop_zero, List.drop_succ_cons, List.nil_append, List.cons_append, List.append_nil, List.length_cons, List.length_nil, Nat.zero_add, Nat.reduceAdd, splice, cellsL] at hg)
      | (refine op_pure hg ?_; clear hg; intro w hg; refine WO.fr ?_) | (refine op_pureB hg ?_; clear hg; intro w hg c hc; cases c <;> refine WO.fr ?_))
    | ((with_reducible refine WO.gid ?_); first | refine WO.on rfl ?_ | refine WO.offN rfl rfl ?_))
  rw [hss, show min (s.length : Int) ((n : Int) - ((all.length : Int) - fl)) = (m : Int) from by omega]
  by_cases hm0 : m = 0
  · subst hm0
    repeat' (first
      | with_reducible refine QX.next ?_ | with_reducible refine WC.seq ?_ | with_reducible refine WC.region ?_ | with_reducible refine WC.block ?_ | with_reducible refine QX.bnorm ?_ | with_reducible refine QX.bret ?_ | with_reducible refine QX.ret ?_ | with_reducible refine QX.exit ?_ | with_reducible refine QX.bsame ?_ | with_reducible refine QX.bother rfl ?_
      | with_reducible refine WO.nil ?_ | with_reducible refine WC.skip ?_ | with_reducible refine WC.ret ?_ | with_reducible refine WC.exit ?_ | ((with_reducible refine WC.id ?_); first | refine WC.condT rfl ?_ | refine WC.condF rfl ?_)
      | (refine WC.quietG hg ?_; clear hg) | ((with_reducible refine WQ.nilG ?_); intro w hg)
      | ((with_reducible refine WQ.cid ?_); first | refine WQ.xG ?_ | refine WQ.pure ?_)
      | ((with_reducible refine WQ.gid ?_); first | refine WQ.on rfl ?_ | refine WQ.offN rfl rfl ?_)
      | ((with_reducible refine WO.cid ?_); first
        | refine WO.x ?_ | (refine op_alloc hg ?_; clear hg; intro b w hg; refine WO.fr ?_) | (refine op_boxA hg ?_; clear hg; intro b w hg; refine WO.fr ?_) | (refine op_box1 hg ?_; clear hg; intro b w hg; refine WO.fr ?_)
        | (refine op_store hg ?_; clear hg; intro w hg; refine WO.fr ?_; try simp only [List.set_cons_succ, List.set_cons_zero] at hg)
        | (refine op_storeA hg ?_; clear hg; intro w hg; refine WO.fr ?_; try simp only [over, List.take_zero, List.take_succ_cons, List.drop_zero, List.drop_succ_cons, List.nil_append, List.cons_append, List.append_nil, List.length_cons, List.length_nil, Nat.zero_add, Nat.reduceAdd, splice, cellsL] at hg)
        | (refine op_pure hg ?_; clear hg; intro w hg; refine WO.fr ?_) | (refine op_pureB hg ?_; clear hg; intro w hg c hc; cases c <;> refine WO.fr ?_))
      | ((with_reducible refine WO.gid ?_); first | refine WO.on rfl ?_ | refine WO.offN rfl rfl ?_))
    exact ret1 rfl ⟨bl, _, rfl, by simpa using hF0, by simpa using hR, hg⟩
  repeat' (first
    | with_reducible refine QX.next ?_ | with_reducible refine WC.seq ?_ | with_reducible refine WC.region ?_ | with_reducible refine WC.block ?_ | with_reducible refine QX.bnorm ?_ | with_reducible refine QX.bret ?_ | with_reducible refine QX.ret ?_ | with_reducible refine QX.exit ?_ | with_reducible refine QX.bsame ?_ | with_reducible refine QX.bother rfl ?_
    | with_reducible refine WO.nil ?_ | with_reducible refine WC.skip ?_ | with_reducible refine WC.ret ?_ | with_reducible refine WC.exit ?_ | ((with_reducible refine WC.id ?_); first | refine WC.condT rfl ?_ | refine WC.condF rfl ?_)
    | (refine WC.quietG hg ?_; clear hg) | ((with_reducible refine WQ.nilG ?_); intro w hg)
    | ((with_reducible refine WQ.cid ?_); first | refine WQ.xG ?_ | refine WQ.pure ?_)
    | ((with_reducible refine WQ.gid ?_); first | refine WQ.on rfl ?_ | refine WQ.offN rfl rfl ?_)
    | ((with_reducible refine WO.cid ?_); first
      | refine WO.x ?_ | (refine op_alloc hg ?_; clear hg; intro b w hg; refine WO.fr ?_) | (refine op_boxA hg ?_; clear hg; intro b w hg; refine WO.fr ?_) | (refine op_box1 hg ?_; clear hg; intro b w hg; refine WO.fr ?_)
      | (refine op_store hg ?_; clear hg; intro w hg; refine WO.fr ?_; try simp only [List.set_cons_succ, List.set_cons_zero] at hg)
      | (refine op_storeA hg ?_; clear hg; intro w hg; refine WO.fr ?_; try simp only [over, List.take_zero, List.take_succ_cons, List.drop_zero, List.drop_succ_cons, List.nil_append, List.cons_append, List.append_nil, List.length_cons, List.length_nil, Nat.zero_add, Nat.reduceAdd, splice, cellsL] at hg)
      | (refine op_pure hg ?_; clear hg; intro w hg; refine WO.fr ?_) | (refine op_pureB hg ?_; clear hg; intro w hg c hc; cases c <;> refine WO.fr ?_))
    | ((with_reducible refine WO.gid ?_); first | refine WO.on rfl ?_ | refine WO.offN rfl rfl ?_))
  refine op_strH ?_
  refine WO.fr ?_
  repeat' (first
    | with_reducible refine QX.next ?_ | with_reducible refine WC.seq ?_ | with_reducible refine WC.region ?_ | with_reducible refine WC.block ?_ | with_reducible refine QX.bnorm ?_ | with_reducible refine QX.bret ?_ | with_reducible refine QX.ret ?_ | with_reducible refine QX.exit ?_ | with_reducible refine QX.bsame ?_ | with_reducible refine QX.bother rfl ?_
    | with_reducible refine WO.nil ?_ | with_reducible refine WC.skip ?_ | with_reducible refine WC.ret ?_ | with_reducible refine WC.exit ?_ | ((with_reducible refine WC.id ?_); first | refine WC.condT rfl ?_ | refine WC.condF rfl ?_)
    | (refine WC.quietG hg ?_; clear hg) | ((with_reducible refine WQ.nilG ?_); intro w hg)
    | ((with_reducible refine WQ.cid ?_); first | refine WQ.xG ?_ | refine WQ.pure ?_)
    | ((with_reducible refine WQ.gid ?_); first | refine WQ.on rfl ?_ | refine WQ.offN rfl rfl ?_)
    | ((with_reducible refine WO.cid ?_); first
      | refine WO.x ?_ | (refine op_alloc hg ?_; clear hg; intro b w hg; refine WO.fr ?_) | (refine op_boxA hg ?_; clear hg; intro b w hg; refine WO.fr ?_) | (refine op_box1 hg ?_; clear hg; intro b w hg; refine WO.fr ?_)
      | (refine op_store hg ?_; clear hg; intro w hg; refine WO.fr ?_; try simp only [List.set_cons_succ, List.set_cons_zero] at hg)
      | (refine op_storeA hg ?_; clear hg; intro w hg; refine WO.fr ?_; try simp only [over, List.take_zero, List.take_succ_cons, List.drop_zero, List.drop_succ_cons, List.nil_append, List.cons_append, List.append_nil, List.length_cons, List.length_nil, Nat.zero_add, Nat.reduceAdd, splice, cellsL] at hg)
      | (refine op_pure hg ?_; clear hg; intro w hg; refine WO.fr ?_) | (refine op_pureB hg ?_; clear hg; intro w hg c hc; cases c <;> refine WO.fr ?_))
    | ((with_reducible refine WO.gid ?_); first | refine WO.on rfl ?_ | refine WO.offN rfl rfl ?_))
  clear p1
  refine WC.loopS [1, 6, 17, 18, 19, 20, 21, 22, 23, 24, 25, 26, 27, 28, 29, 30, 31, 32, 33, 34, 35, 36, 37, 38, 39, 40, 41, 42, 43] (fun xs d w => ∃ (c : Nat) (bl' all' s' : List UInt8), d = [] ∧ (gt xs 2) = .int .i64 c ∧ (gt xs 0) = .string (str s') ∧ c ≤ 2 ∧ RingOK n bl' fl all' ∧ all' ++ s' = all ++ s.take m ∧ (c = 1 → s' = [] ∨ all'.length % n = 0) ∧ (c = 2 → s' = []) ∧ Goes w0 (keys [(pr, .cells [.slice (some ⟨g, 0, none⟩) n n, .int .i64 (fl : Nat), .int .i64 (all.length : Nat)].toArray 112 (0, 0)), (g, .cells (bcells bl).toArray 5 (0, 0))]) [[(pr, .cells [.slice (some ⟨g, 0, none⟩) n n, .int .i64 (fl : Nat), .int .i64 (all'.length : Nat)].toArray 112 (0, 0)), (g, .cells (bcells bl').toArray 5 (0, 0))]] w) (fun xs _ _ => 2 - (intOf (gt xs 2)).toNat) ?_ ?_
  · exact ⟨0, bl, all, s.take m, rfl, rfl, rfl, by omega, hR, rfl, by omega, by omega, hg⟩
  clear hg
  intro xs d w hlen hI K hK
  replace hlen := len_cons hlen
  obtain ⟨x1, xs, rfl, hlen⟩ := hlen
  replace hlen := len_cons hlen
  obtain ⟨x6, xs, rfl, hlen⟩ := hlen
  replace hlen := len_cons hlen
  obtain ⟨x17, xs, rfl, hlen⟩ := hlen
  replace hlen := len_cons hlen
  obtain ⟨x18, xs, rfl, hlen⟩ := hlen
  replace hlen := len_cons hlen
  obtain ⟨x19, xs, rfl, hlen⟩ := hlen
  replace hlen := len_cons hlen
  obtain ⟨x20, xs, rfl, hlen⟩ := hlen
  replace hlen := len_cons hlen
  obtain ⟨x21, xs, rfl, hlen⟩ := hlen
  replace hlen := len_cons hlen
  obtain ⟨x22, xs, rfl, hlen⟩ := hlen
  replace hlen := len_cons hlen
  obtain ⟨x23, xs, rfl, hlen⟩ := hlen
  replace hlen := len_cons hlen
  obtain ⟨x24, xs, rfl, hlen⟩ := hlen
  replace hlen := len_cons hlen
  obtain ⟨x25, xs, rfl, hlen⟩ := hlen
  replace hlen := len_cons hlen
  obtain ⟨x26, xs, rfl, hlen⟩ := hlen
  replace hlen := len_cons hlen
  obtain ⟨x27, xs, rfl, hlen⟩ := hlen
  replace hlen := len_cons hlen
  obtain ⟨x28, xs, rfl, hlen⟩ := hlen
  replace hlen := len_cons hlen
  obtain ⟨x29, xs, rfl, hlen⟩ := hlen
  replace hlen := len_cons hlen
  obtain ⟨x30, xs, rfl, hlen⟩ := hlen
  replace hlen := len_cons hlen
  obtain ⟨x31, xs, rfl, hlen⟩ := hlen
  replace hlen := len_cons hlen
  obtain ⟨x32, xs, rfl, hlen⟩ := hlen
  replace hlen := len_cons hlen
  obtain ⟨x33, xs, rfl, hlen⟩ := hlen
  replace hlen := len_cons hlen
  obtain ⟨x34, xs, rfl, hlen⟩ := hlen
  replace hlen := len_cons hlen
  obtain ⟨x35, xs, rfl, hlen⟩ := hlen
  replace hlen := len_cons hlen
  obtain ⟨x36, xs, rfl, hlen⟩ := hlen
  replace hlen := len_cons hlen
  obtain ⟨x37, xs, rfl, hlen⟩ := hlen
  replace hlen := len_cons hlen
  obtain ⟨x38, xs, rfl, hlen⟩ := hlen
  replace hlen := len_cons hlen
  obtain ⟨x39, xs, rfl, hlen⟩ := hlen
  replace hlen := len_cons hlen
  obtain ⟨x40, xs, rfl, hlen⟩ := hlen
  replace hlen := len_cons hlen
  obtain ⟨x41, xs, rfl, hlen⟩ := hlen
  replace hlen := len_cons hlen
  obtain ⟨x42, xs, rfl, hlen⟩ := hlen
  replace hlen := len_cons hlen
  obtain ⟨x43, xs, rfl, hlen⟩ := hlen
  replace hlen := len_nil hlen
  subst hlen
  refine WC.frame (by simp only [setAll, List.set_cons_succ, List.set_cons_zero]; exact rfl) ?_
  simp only [gt] at hI
  obtain ⟨c, bl', all', s', rfl, rfl, rfl, hc, hR', heq, hc1, hc2, hg⟩ := hI
  have hlen := congrArg List.length heq
  simp only [List.length_append, List.length_take] at hlen
  by_cases hlt : c < 2
  rotate_left
  · obtain rfl : s' = [] := hc2 (by omega)
    rw [List.append_nil] at heq
    subst heq
    repeat' (first
      | with_reducible refine QX.next ?_ | with_reducible refine WC.seq ?_ | with_reducible refine WC.region ?_ | with_reducible refine WC.block ?_ | with_reducible refine QX.bnorm ?_ | with_reducible refine QX.bret ?_ | with_reducible refine QX.ret ?_ | with_reducible refine QX.exit ?_ | with_reducible refine QX.bsame ?_ | with_reducible refine QX.bother rfl ?_
      | with_reducible refine WO.nil ?_ | with_reducible refine WC.skip ?_ | with_reducible refine WC.ret ?_ | with_reducible refine WC.exit ?_ | ((with_reducible refine WC.id ?_); first | refine WC.condT rfl ?_ | refine WC.condF rfl ?_)
      | (refine WC.quietG hg ?_; clear hg) | ((with_reducible refine WQ.nilG ?_); intro w hg)
      | ((with_reducible refine WQ.cid ?_); first | refine WQ.xG ?_ | refine WQ.pure ?_)
      | ((with_reducible refine WQ.gid ?_); first | refine WQ.on rfl ?_ | refine WQ.offN rfl rfl ?_)
      | ((with_reducible refine WO.cid ?_); first
        | refine WO.x ?_ | (refine op_alloc hg ?_; clear hg; intro b w hg; refine WO.fr ?_) | (refine op_boxA hg ?_; clear hg; intro b w hg; refine WO.fr ?_) | (refine op_box1 hg ?_; clear hg; intro b w hg; refine WO.fr ?_)
        | (refine op_store hg ?_; clear hg; intro w hg; refine WO.fr ?_; try simp only [List.set_cons_succ, List.set_cons_zero] at hg)
        | (refine op_storeA hg ?_; clear hg; intro w hg; refine WO.fr ?_; try simp only [over, List.take_zero, List.take_succ_cons, List.drop_zero, List.drop_succ_cons, List.nil_append, List.cons_append, List.append_nil, List.length_cons, List.length_nil, Nat.zero_add, Nat.reduceAdd, splice, cellsL] at hg)
        | (refine op_pure hg ?_; clear hg; intro w hg; refine WO.fr ?_) | (refine op_pureB hg ?_; clear hg; intro w hg c hc; cases c <;> refine WO.fr ?_))
      | ((with_reducible refine WO.gid ?_); first | refine WO.on rfl ?_ | refine WO.offN rfl rfl ?_))
    exact ret1 rfl ⟨bl', _, rfl, ⟨g, rfl⟩, hR', hg⟩
  have hpm := Nat.mod_lt all'.length hpos
  have hfl' := hR'.fle
  have hbl := hR'.len
  obtain ⟨k, hk⟩ : ∃ k, min s'.length (n - all'.length % n) = k := ⟨_, rfl⟩
  have hput := hR'.put s' (by omega) k hk.symm
  generalize hpe : all'.length % n = p at hpm hk hput hc1
  have hmv : moved (some ⟨g, 0, none⟩) p 1 n = some ⟨g, p, none⟩ := by
    unfold moved
    rw [if_neg (by omega)]
    simp [add_lit]
  have hlk : (all' ++ s'.take k).length = all'.length + k := by simp; omega
  repeat' (first
    | with_reducible refine QX.next ?_ | with_reducible refine WC.seq ?_ | with_reducible refine WC.region ?_ | with_reducible refine WC.block ?_ | with_reducible refine QX.bnorm ?_ | with_reducible refine QX.bret ?_ | with_reducible refine QX.ret ?_ | with_reducible refine QX.exit ?_ | with_reducible refine QX.bsame ?_ | with_reducible refine QX.bother rfl ?_
    | with_reducible refine WO.nil ?_ | with_reducible refine WC.skip ?_ | with_reducible refine WC.ret ?_ | with_reducible refine WC.exit ?_ | ((with_reducible refine WC.id ?_); first | refine WC.condT rfl ?_ | refine WC.condF rfl ?_)
    | ((with_reducible refine WQ.cid ?_); first | refine WQ.xG ?_ | refine WQ.pure ?_)
    | ((with_reducible refine WQ.gid ?_); first | refine WQ.on rfl ?_ | refine WQ.offN rfl rfl ?_)
    | ((with_reducible refine WO.cid ?_); first
      | refine WO.x ?_ | (refine op_alloc hg ?_; clear hg; intro b w hg; refine WO.fr ?_) | (refine op_boxA hg ?_; clear hg; intro b w hg; refine WO.fr ?_) | (refine op_box1 hg ?_; clear hg; intro b w hg; refine WO.fr ?_)
      | (refine op_store hg ?_; clear hg; intro w hg; refine WO.fr ?_; try simp only [List.set_cons_succ, List.set_cons_zero] at hg)
      | (refine op_storeA hg ?_; clear hg; intro w hg; refine WO.fr ?_; try simp only [over, List.take_zero, List.take_succ_cons, List.drop_zero, List.drop_succ_cons, List.nil_append, List.cons_append, List.append_nil, List.length_cons, List.length_nil, Nat.zero_add, Nat.reduceAdd, splice, cellsL] at hg)
      | (refine op_pure hg ?_; clear hg; intro w hg; refine WO.fr ?_) | (refine op_pureB hg ?_; clear hg; intro w hg c hc; cases c <;> refine WO.fr ?_))
    | ((with_reducible refine WO.gid ?_); first | refine WO.on rfl ?_ | refine WO.offN rfl rfl ?_))
  have s1 : ∀ {w : World}, (w.heap[pr]? = some (.cells [.slice (some ⟨g, 0, none⟩) n n, .int .i64 (fl : Nat), .int .i64 (all'.length : Nat)].toArray 112 (0, 0))) → w.cell? ⟨pr, 0, none⟩ = some (.slice (some ⟨g, 0, none⟩) n n) := fun h => heap_cell h rfl
  have s2 : ∀ {w : World}, (w.heap[pr]? = some (.cells [.slice (some ⟨g, 0, none⟩) n n, .int .i64 (fl : Nat), .int .i64 (all'.length : Nat)].toArray 112 (0, 0))) → w.cell? ⟨pr, 2, none⟩ = some (.int .i64 all'.length) := fun h => heap_cell h rfl
  refine WC.drawn (fun w => w.heap[pr]? = some (.cells [.slice (some ⟨g, 0, none⟩) n n, .int .i64 (fl : Nat), .int .i64 (all'.length : Nat)].toArray 112 (0, 0))) [12, 13] hg ?_
  clear hg
  intro w hg
  have hS : (fun w => w.heap[pr]? = some (.cells [.slice (some ⟨g, 0, none⟩) n n, .int .i64 (fl : Nat), .int .i64 (all'.length : Nat)].toArray 112 (0, 0))) w := hg.own (pr, .cells [.slice (some ⟨g, 0, none⟩) n n, .int .i64 (fl : Nat), .int .i64 (all'.length : Nat)].toArray 112 (0, 0)) (by simp)
  refine WA.passM 0 hS ?_
  refine WA.passM 1 hS ?_
  refine WA.passM 2 hS ?_
  refine WA.passM 4 hS ?_
  refine WA.passM 5 hS ?_
  refine WA.passM 6 hS ?_
  refine WA.passM 7 hS ?_
  refine WA.passM 11 hS ?_
  refine WA.passM 3 hS ?_
  refine WA.passM 8 hS ?_
  refine WA.only 9 ?_
  refine op_pure hg ?_ (hc := rplace_cell all'.length (by first | with_reducible assumption | ((with_reducible apply CellAt.cell (hg := hg)); (repeat (first | ((with_reducible apply CellAt.here); (first | exact rfl | with_reducible assumption)) | with_reducible apply CellAt.more | with_reducible apply CellAt.next)); done) | ((with_reducible apply hg.cellOld0); with_reducible assumption) | with_reducible exact c1 hg | with_reducible exact c2 hg | with_reducible exact c3 hg | with_reducible exact c4 hg | with_reducible exact c5 hg | with_reducible exact c6 hg | with_reducible exact s1 hs | with_reducible exact s2 hs | with_reducible exact s3 hs | with_reducible exact s4 hs | with_reducible exact s5 hs) hpos)
  clear hg hS
  intro w hg
  rw [hpe]
  refine WO.fr ?_
  have hS : (fun w => w.heap[pr]? = some (.cells [.slice (some ⟨g, 0, none⟩) n n, .int .i64 (fl : Nat), .int .i64 (all'.length : Nat)].toArray 112 (0, 0))) w := hg.own (pr, .cells [.slice (some ⟨g, 0, none⟩) n n, .int .i64 (fl : Nat), .int .i64 (all'.length : Nat)].toArray 112 (0, 0)) (by simp)
  refine WO.nilA hS ?_
  refine WA.passM 10 hS ?_
  refine WA.only 12 ?_
  rw [hmv]
  refine op_copyStr (o := p) (dl := n - p) hg ?_ (hfit := by rw [bcells_len]; omega)
  clear hg hS s1 s2
  intro w hg
  rw [hk] at hg ⊢
  rw [show (bcells bl').take p ++ bcells (s'.take k) ++ (bcells bl').drop (p + k) = bcells (bl'.take p ++ s'.take k ++ bl'.drop (p + k)) from by simp [bcells, List.map_take, List.map_drop]] at hg
  refine WO.fr ?_
  refine WO.nilL ?_
  refine WA.passL 13 ?_
  refine WA.nil ?_
  repeat' (first
    | with_reducible refine QX.next ?_ | with_reducible refine WC.seq ?_ | with_reducible refine WC.region ?_ | with_reducible refine WC.block ?_ | with_reducible refine QX.bnorm ?_ | with_reducible refine QX.bret ?_ | with_reducible refine QX.ret ?_ | with_reducible refine QX.exit ?_ | with_reducible refine QX.bsame ?_ | with_reducible refine QX.bother rfl ?_
    | with_reducible refine WO.nil ?_ | with_reducible refine WC.skip ?_ | with_reducible refine WC.ret ?_ | with_reducible refine WC.exit ?_ | ((with_reducible refine WC.id ?_); first | refine WC.condT rfl ?_ | refine WC.condF rfl ?_)
    | (refine WC.quietG hg ?_; clear hg) | ((with_reducible refine WQ.nilG ?_); intro w hg)
    | ((with_reducible refine WQ.cid ?_); first | refine WQ.xG ?_ | refine WQ.pure ?_)
    | ((with_reducible refine WQ.gid ?_); first | refine WQ.on rfl ?_ | refine WQ.offN rfl rfl ?_)
    | ((with_reducible refine WO.cid ?_); first
      | refine WO.x ?_ | (refine op_alloc hg ?_; clear hg; intro b w hg; refine WO.fr ?_) | (refine op_boxA hg ?_; clear hg; intro b w hg; refine WO.fr ?_) | (refine op_box1 hg ?_; clear hg; intro b w hg; refine WO.fr ?_)
      | (refine op_store hg ?_; clear hg; intro w hg; refine WO.fr ?_; try simp only [List.set_cons_succ, List.set_cons_zero] at hg)
      | (refine op_storeA hg ?_; clear hg; intro w hg; refine WO.fr ?_; try simp only [over, List.take_zero, List.take_succ_cons, List.drop_zero, List.drop_succ_cons, List.nil_append, List.cons_append, List.append_nil, List.length_cons, List.length_nil, Nat.zero_add, Nat.reduceAdd, splice, cellsL] at hg)
      | (refine op_pure hg ?_; clear hg; intro w hg; refine WO.fr ?_) | (refine op_pureB hg ?_; clear hg; intro w hg c hc; cases c <;> refine WO.fr ?_))
    | ((with_reducible refine WO.gid ?_); first | refine WO.on rfl ?_ | refine WO.offN rfl rfl ?_))
  refine op_strL ?_
  refine WO.fr ?_
  repeat' (first
    | with_reducible refine QX.next ?_ | with_reducible refine WC.seq ?_ | with_reducible refine WC.region ?_ | with_reducible refine WC.block ?_ | with_reducible refine QX.bnorm ?_ | with_reducible refine QX.bret ?_ | with_reducible refine QX.ret ?_ | with_reducible refine QX.exit ?_ | with_reducible refine QX.bsame ?_ | with_reducible refine QX.bother rfl ?_
    | with_reducible refine WO.nil ?_ | with_reducible refine WC.skip ?_ | with_reducible refine WC.ret ?_ | with_reducible refine WC.exit ?_ | ((with_reducible refine WC.id ?_); first | refine WC.condT rfl ?_ | refine WC.condF rfl ?_)
    | (refine WC.quietG hg ?_; clear hg) | ((with_reducible refine WQ.nilG ?_); intro w hg)
    | ((with_reducible refine WQ.cid ?_); first | refine WQ.xG ?_ | refine WQ.pure ?_)
    | ((with_reducible refine WQ.gid ?_); first | refine WQ.on rfl ?_ | refine WQ.offN rfl rfl ?_)
    | ((with_reducible refine WO.cid ?_); first
      | refine WO.x ?_ | (refine op_alloc hg ?_; clear hg; intro b w hg; refine WO.fr ?_) | (refine op_boxA hg ?_; clear hg; intro b w hg; refine WO.fr ?_) | (refine op_box1 hg ?_; clear hg; intro b w hg; refine WO.fr ?_)
      | (refine op_store hg ?_; clear hg; intro w hg; refine WO.fr ?_; try simp only [List.set_cons_succ, List.set_cons_zero] at hg)
      | (refine op_storeA hg ?_; clear hg; intro w hg; refine WO.fr ?_; try simp only [over, List.take_zero, List.take_succ_cons, List.drop_zero, List.drop_succ_cons, List.nil_append, List.cons_append, List.append_nil, List.length_cons, List.length_nil, Nat.zero_add, Nat.reduceAdd, splice, cellsL] at hg)
      | (refine op_pure hg ?_; clear hg; intro w hg; refine WO.fr ?_) | (refine op_pureB hg ?_; clear hg; intro w hg c hc; cases c <;> refine WO.fr ?_))
    | ((with_reducible refine WO.gid ?_); first | refine WO.on rfl ?_ | refine WO.offN rfl rfl ?_))
  rw [show (all'.length : Int) + (k : Int) = ((all' ++ s'.take k).length : Nat) from by omega] at hg
  with_reducible refine QX.norm ?_
  refine hK _ _ _ ?_ ?_ ?_
  · simp only [setAll, List.map_cons, List.map_nil, gt, List.set_cons_succ, List.set_cons_zero]
  all_goals simp only [List.map_cons, List.map_nil, gt, intOf]
  · refine ⟨c + 1, bl'.take p ++ s'.take k ++ bl'.drop (p + k), all' ++ s'.take k, s'.drop k, trivial, rfl, rfl, by omega, hput, ?_, fun h => ?_, fun h => ?_, hg⟩
    · rw [List.append_assoc, List.take_append_drop]; exact heq
    · rcases Nat.lt_or_ge k s'.length with hkl | hkl
      · right
        have hd := Nat.div_add_mod all'.length n
        rw [hlk, show all'.length + k = n * (all'.length / n + 1) from by rw [Nat.mul_add]; omega]
        exact Nat.mul_mod_right _ _
      · left
        exact List.drop_eq_nil_of_le hkl
    · rcases hc1 (by omega) with h0 | h0
      · rw [h0]; simp
      · exact List.drop_eq_nil_of_le (by omega)
  · omega
end
end Go.Proofs.Ytdjepfpmoeecaaa
