/- The ring: Text, Copy; rings that nobody made. -/
import Derived.Test.YtdjepfpmoeecaaaWiB
namespace Go.Proofs.Ytdjepfpmoeecaaa
open Go Go.RowKit
set_option maxRecDepth 10000
set_option linter.unusedSimpArgs false
set_option linter.unusedVariables false

theorem Own.bytes {a : Option Addr} {j c : Nat} {bs : List UInt8} {f : Frag} {w0 w : World} {M : List Nat} {Fs : List Frag} (h : Own 5 1 a j c (bcells bs) f) (hg : Goes w0 M (f :: Fs) w) : (∀ p, a = some p → Cells w p (bcells bs)) ∧ (a = none → bs = []) := by
  have hl := h.len
  generalize hx : bcells bs = xs at h hl
  cases h with
  | nil =>
    refine ⟨fun p hp => (by cases hp), fun _ => ?_⟩
    have := congrArg List.length hx
    rw [bcells_len] at this
    exact List.eq_nil_of_length_eq_zero (by simpa using this)
  | @row g _ _ cur _ h1 h2 h3 h4 =>
    refine ⟨fun p hp => ?_, fun h => (by cases h)⟩
    obtain rfl := Option.some.inj hp
    refine heap_cells (hg.own (g, .cells cur.toArray 5 (0, 0)) (by simp)) ?_
    rw [List.drop_zero, hl, h4]

def textV (all : List UInt8) (fl : Nat) (fr to : Int) : List UInt8 := (all.take (min to all.length).toNat).drop (max fr fl).toNat

section
variable {pr n fl en : Nat} {bl : List UInt8} {f : Frag} {w0 : World}
set_option maxHeartbeats 4000000 in
theorem rText_spec {all : List UInt8} (fr to : Int) (hF : RingF pr n bl fl all.length f) (hO : ∀ p ∈ f, w0.heap[p.1]? = some p.2) (hR : RingOK n bl fl all) (hn : n ≤ 100000) (hal : all.length ≤ 100000) :
    Calls Try.prog 63 #[.pointer (some ⟨pr, 0, none⟩), .int .i64 fr, .int .i64 to] w0 fun e w' => e = .returned (.string (str (textV all fl fr to))) ∧ Goes w0 [] [] w' := by
  have hcells := fun {w : World} {Fs : List Frag} (h : Goes w0 [] Fs w) => heap_goes hO h
  obtain ⟨g, rfl⟩ := hF
  have hg := Goes.refl w0
  have hpos := hR.pos
  have hfle := hR.fle
  have hbl := hR.len
  have hst : ∀ {w Fs}, Goes w0 [] Fs w → (w.heap[pr]? = some (.cells [.slice (some ⟨g, 0, none⟩) n n, .int .i64 (fl : Nat), .int .i64 (all.length : Nat)].toArray 112 (0, 0)) ∧ w.heap[g]? = some (.cells (bcells bl).toArray 5 (0, 0))) := fun h => ⟨hcells h (pr, _) (by simp), hcells h (g, _) (by simp)⟩
  have c1 : ∀ {w Fs}, Goes w0 [] Fs w → w.cell? ⟨pr, 0, none⟩ = some (.slice (some ⟨g, 0, none⟩) n n) := fun h => heap_cell (hst h).1 rfl
  have c2 : ∀ {w Fs}, Goes w0 [] Fs w → w.cell? ⟨pr, 1, none⟩ = some (.int .i64 fl) := fun h => heap_cell (hst h).1 rfl
  have c3 : ∀ {w Fs}, Goes w0 [] Fs w → w.cell? ⟨pr, 2, none⟩ = some (.int .i64 all.length) := fun h => heap_cell (hst h).1 rfl
  have p1 : ∀ {w Fs}, Goes w0 [] Fs w → Calls Try.prog 77 #[.pointer (some ⟨pr, 0, none⟩)] w _ := fun h => rmade_cell (c1 h) hpos
  obtain ⟨A, hA⟩ : ∃ A : Nat, max fr (fl : Int) = A := ⟨(max fr (fl : Int)).toNat, by omega⟩
  refine enter Try.func63 rfl (by simp only [Try.ntmps63, List.length_cons, List.length_nil, Nat.reduceAdd, Nat.reduceSub, List.replicate_succ, List.replicate_zero, List.cons_append, List.nil_append]; exact rfl) ?_
  repeat' (first
    | with_reducible refine QX.next ?_ | with_reducible refine WC.seq ?_ | with_reducible refine WC.region ?_ | with_reducible refine WC.block ?_ | with_reducible refine QX.bnorm ?_ | with_reducible refine QX.bret ?_ | with_reducible refine QX.ret ?_ | with_reducible refine QX.exit ?_ | with_reducible refine QX.bsame ?_ | with_reducible refine QX.bother rfl ?_
    | with_reducible refine WO.nil ?_ | with_reducible refine WC.skip ?_ | with_reducible refine WC.ret ?_ | with_reducible refine WC.exit ?_ | ((with_reducible refine WC.id ?_); first | refine WC.condT rfl ?_ | refine WC.condF rfl ?_)
    | (refine WC.quietG hg ?_; clear hg) | ((with_reducible refine WQ.nilG ?_); intro w hg)
    | ((with_reducible refine WQ.cid ?_); first | refine WQ.xG ?_ | refine WQ.pure ?_)
    | ((with_reducible refine WQ.gid ?_); first | refine WQ.on rfl ?_ | refine WQ.offN rfl rfl ?_)
    | ((with_reducible refine WO.cid ?_); first
      | refine WO.x ?_ | (refine op_alloc hg ?_; clear hg; intro b w hg; refine WO.fr ?_) | (refine op_boxA hg ?_; clear hg; intro b w hg; refine WO.fr ?_) | (refine op_box1 hg ?_; clear hg; intro b w hg; refine WO.fr ?_)
      | (refine op_store hg ?_; clear hg; intro w hg; refine WO.fr ?_; try simp only [List.set_cons_succ, List.set_cons_zero] at hg)
      | (refine op_storeA hg ?_; clear hg; intro w hg; refine WO.fr ?_; try simp only [over, List.take_zero, List.take_succ_cons, List.drop_zero, List.drop_succ_cons, List.nil_append, List.cons_append, List.append_nil, List.length_cons, List.length_nil, Nat.zero_add, Nat.reduceAdd, splice, cellsL] at hg)
      | (refine op_pure hg ?_; clear hg; intro w hg; refine WO.fr ?_) | (refine op_pureB hg ?_; clear hg; intro w hg c hc; cases c <;> refine WO.fr ?_))
    | ((with_reducible refine WO.gid ?_); first | refine WO.on rfl ?_ | refine WO.offN rfl rfl ?_))
  refine op_make (m := 0) (c := n) hg ?_
  clear hg
  intro g2 w hg
  refine WO.fr ?_
  repeat' (first
    | with_reducible refine QX.next ?_ | with_reducible refine WC.seq ?_ | with_reducible refine WC.region ?_ | with_reducible refine WC.block ?_ | with_reducible refine QX.bnorm ?_ | with_reducible refine QX.bret ?_ | with_reducible refine QX.ret ?_ | with_reducible refine QX.exit ?_ | with_reducible refine QX.bsame ?_ | with_reducible refine QX.bother rfl ?_
    | with_reducible refine WO.nil ?_ | with_reducible refine WC.skip ?_ | with_reducible refine WC.ret ?_ | with_reducible refine WC.exit ?_ | ((with_reducible refine WC.id ?_); first | refine WC.condT rfl ?_ | refine WC.condF rfl ?_)
    | (refine WC.quietG hg ?_; clear hg) | ((with_reducible refine WQ.nilG ?_); intro w hg)
    | ((with_reducible refine WQ.cid ?_); first | refine WQ.xG ?_ | refine WQ.pure ?_)
    | ((with_reducible refine WQ.gid ?_); first | refine WQ.on rfl ?_ | refine WQ.offN rfl rfl ?_)
    | ((with_reducible refine WO.cid ?_); first
      | refine WO.x ?_ | (refine op_alloc hg ?_; clear hg; intro b w hg; refine WO.fr ?_) | (refine op_boxA hg ?_; clear hg; intro b w hg; refine WO.fr ?_) | (refine op_box1 hg ?_; clear hg; intro b w hg; refine WO.fr ?_)
      | (refine op_store hg ?_; clear hg; intro w hg; refine WO.fr ?_; try simp only [List.set_cons_succ, List.set_cons_zero] at hg)
      | (refine op_storeA hg ?_; clear hg; intro w hg; refine WO.fr ?_; try simp only [over, List.take_zero, List.take_succ_cons, List.drop_zero, List.drop_succ_cons, List.nil_append, List.cons_append, List.append_nil, List.length_cons, List.length_nil, Nat.zero_add, Nat.reduceAdd, splice, cellsL] at hg)
      | (refine op_pure hg ?_; clear hg; intro w hg; refine WO.fr ?_) | (refine op_pureB hg ?_; clear hg; intro w hg c hc; cases c <;> refine WO.fr ?_))
    | ((with_reducible refine WO.gid ?_); first | refine WO.on rfl ?_ | refine WO.offN rfl rfl ?_))
  rw [hA]
  refine WC.loopS [8, 9, 27, 28, 29, 30, 31, 32, 33, 34, 35, 36, 37, 38, 39, 40, 41, 42, 43, 44, 45, 46, 47, 48] (fun xs d w => ∃ (j : Nat) (ao : Option Addr) (co : Nat) (fo : Frag), d = [] ∧ (gt xs 1) = .int .i64 (A + j : Nat) ∧ (j = 0 ∨ ((A + j : Nat) : Int) ≤ min to all.length) ∧ (gt xs 0) = .slice ao j co ∧ Own 5 1 ao j co (bcells ((all.drop A).take j)) fo ∧ Goes w0 [] [fo] w) (fun xs _ _ => all.length - (intOf (gt xs 1)).toNat) ?_ ?_
  · exact ⟨0, _, _, _, rfl, rfl, .inl rfl, rfl, .row (Nat.zero_le _) (by simp only [maxLen]; omega) (by simp) (by simp [bcells]), hg⟩
  clear hg
  intro xs d w hlen hI K hK
  replace hlen := len_cons hlen
  obtain ⟨x8, xs, rfl, hlen⟩ := hlen
  replace hlen := len_cons hlen
  obtain ⟨x9, xs, rfl, hlen⟩ := hlen
  replace hlen := len_cons hlen
  obtain ⟨x27, xs, rfl, hlen⟩ := hlen
  replace hlen := len_cons hlen
  obtain ⟨x28, xs, rfl, hlen⟩ := hlen
  replace hlen := len_cons hlen
  obtain ⟨x29, xs, rfl, hlen⟩ := hlen
  replace hlen := len_cons hlen
  obtain ⟨x30, xs, rfl, hlen⟩ := hlen
  replace hlen := len_cons hlen
  obtain ⟨x31, xs, rfl, hlen⟩ := hlen
  replace hlen := len_cons hlen
  obtain ⟨x32, xs, rfl, hlen⟩ := hlen
  replace hlen := len_cons hlen
  obtain ⟨x33, xs, rfl, hlen⟩ := hlen
  replace hlen := len_cons hlen
  obtain ⟨x34, xs, rfl, hlen⟩ := hlen
  replace hlen := len_cons hlen
  obtain ⟨x35, xs, rfl, hlen⟩ := hlen
  replace hlen := len_cons hlen
  obtain ⟨x36, xs, rfl, hlen⟩ := hlen
  replace hlen := len_cons hlen
  obtain ⟨x37, xs, rfl, hlen⟩ := hlen
  replace hlen := len_cons hlen
  obtain ⟨x38, xs, rfl, hlen⟩ := hlen
  replace hlen := len_cons hlen
  obtain ⟨x39, xs, rfl, hlen⟩ := hlen
  replace hlen := len_cons hlen
  obtain ⟨x40, xs, rfl, hlen⟩ := hlen
  replace hlen := len_cons hlen
  obtain ⟨x41, xs, rfl, hlen⟩ := hlen
  replace hlen := len_cons hlen
  obtain ⟨x42, xs, rfl, hlen⟩ := hlen
  replace hlen := len_cons hlen
  obtain ⟨x43, xs, rfl, hlen⟩ := hlen
  replace hlen := len_cons hlen
  obtain ⟨x44, xs, rfl, hlen⟩ := hlen
  replace hlen := len_cons hlen
  obtain ⟨x45, xs, rfl, hlen⟩ := hlen
  replace hlen := len_cons hlen
  obtain ⟨x46, xs, rfl, hlen⟩ := hlen
  replace hlen := len_cons hlen
  obtain ⟨x47, xs, rfl, hlen⟩ := hlen
  replace hlen := len_cons hlen
  obtain ⟨x48, xs, rfl, hlen⟩ := hlen
  replace hlen := len_nil hlen
  subst hlen
  refine WC.frame (by simp only [setAll, List.set_cons_succ, List.set_cons_zero]; exact rfl) ?_
  simp only [gt] at hI
  obtain ⟨j, ao, co, fo, rfl, rfl, hj, rfl, hW, hg⟩ := hI
  by_cases hlt : ((A + j : Nat) : Int) < min to all.length
  rotate_left
  · have htv : textV all fl fr to = (all.drop A).take j := by
      unfold textV
      rw [hA, Int.toNat_natCast]
      rcases hj with h0 | h0
      · subst h0
        rw [List.take_zero]
        exact List.drop_eq_nil_of_le (by simp; omega)
      · rw [List.drop_take]
        congr 1
        omega
    have htl : ((all.drop A).take j).length = j := by
      rcases hj with h0 | h0
      · subst h0; rfl
      · simp; omega
    rw [htv]
    repeat' (first
      | with_reducible refine QX.next ?_ | with_reducible refine WC.seq ?_ | with_reducible refine WC.region ?_ | with_reducible refine WC.block ?_ | with_reducible refine QX.bnorm ?_ | with_reducible refine QX.bret ?_ | with_reducible refine QX.ret ?_ | with_reducible refine QX.exit ?_ | with_reducible refine QX.bsame ?_ | with_reducible refine QX.bother rfl ?_
      | with_reducible refine WO.nil ?_ | with_reducible refine WC.skip ?_ | with_reducible refine WC.ret ?_ | with_reducible refine WC.exit ?_ | ((with_reducible refine WC.id ?_); first | refine WC.condT rfl ?_ | refine WC.condF rfl ?_)
      | (refine WC.quietG hg ?_; clear hg) | ((with_reducible refine WQ.nilG ?_); intro w hg)
      | ((with_reducible refine WQ.cid ?_); first | refine WQ.xG ?_ | refine WQ.pure ?_)
      | ((with_reducible refine WQ.gid ?_); first | refine WQ.on rfl ?_ | refine WQ.offN rfl rfl ?_)
      | ((with_reducible refine WO.cid ?_); first
        | refine WO.x ?_ | (refine op_alloc hg ?_; clear hg; intro b w hg; refine WO.fr ?_) | (refine op_boxA hg ?_; clear hg; intro b w hg; refine WO.fr ?_) | (refine op_box1 hg ?_; clear hg; intro b w hg; refine WO.fr ?_)
        | (refine op_store hg ?_; clear hg; intro w hg; refine WO.fr ?_; try simp only [List.set_cons_succ, List.set_cons_zero] at hg)
        | (refine op_storeA hg ?_; clear hg; intro w hg; refine WO.fr ?_; try simp only [over, List.take_zero, List.take_succ_cons, List.drop_zero, List.drop_succ_cons, List.nil_append, List.cons_append, List.append_nil, List.length_cons, List.length_nil, Nat.zero_add, Nat.reduceAdd, splice, cellsL] at hg)
        | (refine op_pure hg ?_; clear hg; intro w hg; refine WO.fr ?_) | (refine op_pureB hg ?_; clear hg; intro w hg c hc; cases c <;> refine WO.fr ?_))
      | ((with_reducible refine WO.gid ?_); first | refine WO.on rfl ?_ | refine WO.offN rfl rfl ?_))
    have hby := hW.bytes hg
    refine op_toStr htl hby.1 hby.2 ?_
    refine WO.fr ?_
    repeat' (first
      | with_reducible refine QX.next ?_ | with_reducible refine WC.seq ?_ | with_reducible refine WC.region ?_ | with_reducible refine WC.block ?_ | with_reducible refine QX.bnorm ?_ | with_reducible refine QX.bret ?_ | with_reducible refine QX.ret ?_ | with_reducible refine QX.exit ?_ | with_reducible refine QX.bsame ?_ | with_reducible refine QX.bother rfl ?_
      | with_reducible refine WO.nil ?_ | with_reducible refine WC.skip ?_ | with_reducible refine WC.ret ?_ | with_reducible refine WC.exit ?_ | ((with_reducible refine WC.id ?_); first | refine WC.condT rfl ?_ | refine WC.condF rfl ?_)
      | (refine WC.quietG hg ?_; clear hg) | ((with_reducible refine WQ.nilG ?_); intro w hg)
      | ((with_reducible refine WQ.cid ?_); first | refine WQ.xG ?_ | refine WQ.pure ?_)
      | ((with_reducible refine WQ.gid ?_); first | refine WQ.on rfl ?_ | refine WQ.offN rfl rfl ?_)
      | ((with_reducible refine WO.cid ?_); first
        | refine WO.x ?_ | (refine op_alloc hg ?_; clear hg; intro b w hg; refine WO.fr ?_) | (refine op_boxA hg ?_; clear hg; intro b w hg; refine WO.fr ?_) | (refine op_box1 hg ?_; clear hg; intro b w hg; refine WO.fr ?_)
        | (refine op_store hg ?_; clear hg; intro w hg; refine WO.fr ?_; try simp only [List.set_cons_succ, List.set_cons_zero] at hg)
        | (refine op_storeA hg ?_; clear hg; intro w hg; refine WO.fr ?_; try simp only [over, List.take_zero, List.take_succ_cons, List.drop_zero, List.drop_succ_cons, List.nil_append, List.cons_append, List.append_nil, List.length_cons, List.length_nil, Nat.zero_add, Nat.reduceAdd, splice, cellsL] at hg)
        | (refine op_pure hg ?_; clear hg; intro w hg; refine WO.fr ?_) | (refine op_pureB hg ?_; clear hg; intro w hg c hc; cases c <;> refine WO.fr ?_))
      | ((with_reducible refine WO.gid ?_); first | refine WO.on rfl ?_ | refine WO.offN rfl rfl ?_))
    exact ret1 rfl ⟨rfl, hg.drop⟩
  have hjm := Nat.mod_lt (A + j) hpos
  have hmem := hR.mem (A + j) (by omega) (by omega)
  have hb1 : ∀ {w : World}, (w.heap[pr]? = some (.cells [.slice (some ⟨g, 0, none⟩) n n, .int .i64 (fl : Nat), .int .i64 (all.length : Nat)].toArray 112 (0, 0)) ∧ w.heap[g]? = some (.cells (bcells bl).toArray 5 (0, 0))) → w.cell? ⟨g, (A + j) % n, none⟩ = some (.int .u8 ((all[A + j]'(by omega)).toNat : Int)) := fun h => heap_cell h.2 (bcells_get (by rw [hmem]; exact List.getElem?_eq_getElem _))
  repeat' (first
    | with_reducible refine QX.next ?_ | with_reducible refine WC.seq ?_ | with_reducible refine WC.region ?_ | with_reducible refine WC.block ?_ | with_reducible refine QX.bnorm ?_ | with_reducible refine QX.bret ?_ | with_reducible refine QX.ret ?_ | with_reducible refine QX.exit ?_ | with_reducible refine QX.bsame ?_ | with_reducible refine QX.bother rfl ?_
    | with_reducible refine WO.nil ?_ | with_reducible refine WC.skip ?_ | with_reducible refine WC.ret ?_ | with_reducible refine WC.exit ?_ | ((with_reducible refine WC.id ?_); first | refine WC.condT rfl ?_ | refine WC.condF rfl ?_)
    | (refine WC.quietG hg ?_; clear hg) | ((with_reducible refine WQ.nilG ?_); intro w hg)
    | ((with_reducible refine WQ.cid ?_); first | refine WQ.xG ?_ | refine WQ.pure ?_)
    | ((with_reducible refine WQ.gid ?_); first | refine WQ.on rfl ?_ | refine WQ.offN rfl rfl ?_)
    | ((with_reducible refine WO.cid ?_); first
      | refine WO.x ?_ | (refine op_alloc hg ?_; clear hg; intro b w hg; refine WO.fr ?_) | (refine op_boxA hg ?_; clear hg; intro b w hg; refine WO.fr ?_) | (refine op_box1 hg ?_; clear hg; intro b w hg; refine WO.fr ?_)
      | (refine op_store hg ?_; clear hg; intro w hg; refine WO.fr ?_; try simp only [List.set_cons_succ, List.set_cons_zero] at hg)
      | (refine op_storeA hg ?_; clear hg; intro w hg; refine WO.fr ?_; try simp only [over, List.take_zero, List.take_succ_cons, List.drop_zero, List.drop_succ_cons, List.nil_append, List.cons_append, List.append_nil, List.length_cons, List.length_nil, Nat.zero_add, Nat.reduceAdd, splice, cellsL] at hg)
      | (refine op_pure hg ?_; clear hg; intro w hg; refine WO.fr ?_) | (refine op_pureB hg ?_; clear hg; intro w hg c hc; cases c <;> refine WO.fr ?_))
    | ((with_reducible refine WO.gid ?_); first | refine WO.on rfl ?_ | refine WO.offN rfl rfl ?_))
  clear c1 c2 c3 p1
  have s1 : ∀ {w : World}, (w.heap[pr]? = some (.cells [.slice (some ⟨g, 0, none⟩) n n, .int .i64 (fl : Nat), .int .i64 (all.length : Nat)].toArray 112 (0, 0)) ∧ w.heap[g]? = some (.cells (bcells bl).toArray 5 (0, 0))) → w.cell? ⟨pr, 0, none⟩ = some (.slice (some ⟨g, 0, none⟩) n n) := fun h => heap_cell h.1 rfl
  have s2 : ∀ {w : World}, (w.heap[pr]? = some (.cells [.slice (some ⟨g, 0, none⟩) n n, .int .i64 (fl : Nat), .int .i64 (all.length : Nat)].toArray 112 (0, 0)) ∧ w.heap[g]? = some (.cells (bcells bl).toArray 5 (0, 0))) → w.cell? ⟨g, (A + j) % n, none⟩ = some (.int .u8 ((all[A + j]'(by omega)).toNat : Int)) := hb1
  refine WC.drawn (fun w => w.heap[pr]? = some (.cells [.slice (some ⟨g, 0, none⟩) n n, .int .i64 (fl : Nat), .int .i64 (all.length : Nat)].toArray 112 (0, 0)) ∧ w.heap[g]? = some (.cells (bcells bl).toArray 5 (0, 0))) [] hg ?_
  clear hg
  intro w hg
  have hS : (fun w => w.heap[pr]? = some (.cells [.slice (some ⟨g, 0, none⟩) n n, .int .i64 (fl : Nat), .int .i64 (all.length : Nat)].toArray 112 (0, 0)) ∧ w.heap[g]? = some (.cells (bcells bl).toArray 5 (0, 0))) w := hst hg
  refine WA.passM 0 hS ?_
  refine WA.passM 1 hS ?_
  refine WA.passM 2 hS ?_
  refine WA.passM 3 hS ?_
  refine WA.passM 5 hS ?_
  refine WA.passM 6 hS ?_
  refine WA.passM 4 hS ?_
  refine WA.only 7 ?_
  refine op_callV (rplace_cell (A + j) (s1 hS) hpos) ?_
  rintro _ w ⟨rfl, hg2⟩
  replace hg := hg.call00 hg2
  clear hg2 hS
  refine ⟨_, rfl, ?_⟩
  refine WO.fr ?_
  have hS : (fun w => w.heap[pr]? = some (.cells [.slice (some ⟨g, 0, none⟩) n n, .int .i64 (fl : Nat), .int .i64 (all.length : Nat)].toArray 112 (0, 0)) ∧ w.heap[g]? = some (.cells (bcells bl).toArray 5 (0, 0))) w := hst hg
  refine WO.nilA hS ?_
  refine WA.passM 8 hS ?_
  refine WA.passM 9 hS ?_
  refine WA.only 10 ?_
  refine op_build1 hg ?_
  clear hg hS
  intro b3 w hg
  refine WO.fr ?_
  have hS : (fun w => w.heap[pr]? = some (.cells [.slice (some ⟨g, 0, none⟩) n n, .int .i64 (fl : Nat), .int .i64 (all.length : Nat)].toArray 112 (0, 0)) ∧ w.heap[g]? = some (.cells (bcells bl).toArray 5 (0, 0))) w := hst hg
  refine WO.nilA hS ?_
  refine WA.only 11 ?_
  refine op_append (hg.front 1) hW (Goes.src1 (hg.front 0) Und.out rfl rfl) ?_
  clear hg hS hW
  intro a2 c2' f2 w hW hg
  refine WO.fr ?_
  have hS : (fun w => w.heap[pr]? = some (.cells [.slice (some ⟨g, 0, none⟩) n n, .int .i64 (fl : Nat), .int .i64 (all.length : Nat)].toArray 112 (0, 0)) ∧ w.heap[g]? = some (.cells (bcells bl).toArray 5 (0, 0))) w := hst hg
  refine WO.nilA hS ?_
  refine WA.passM 12 hS ?_
  refine WA.nil ?_
  repeat' (first
    | with_reducible refine QX.next ?_ | with_reducible refine WC.seq ?_ | with_reducible refine WC.region ?_ | with_reducible refine WC.block ?_ | with_reducible refine QX.bnorm ?_ | with_reducible refine QX.bret ?_ | with_reducible refine QX.ret ?_ | with_reducible refine QX.exit ?_ | with_reducible refine QX.bsame ?_ | with_reducible refine QX.bother rfl ?_
    | with_reducible refine WO.nil ?_ | with_reducible refine WC.skip ?_ | with_reducible refine WC.ret ?_ | with_reducible refine WC.exit ?_ | ((with_reducible refine WC.id ?_); first | refine WC.condT rfl ?_ | refine WC.condF rfl ?_)
    | (refine WC.quietG hg ?_; clear hg) | ((with_reducible refine WQ.nilG ?_); intro w hg)
    | ((with_reducible refine WQ.cid ?_); first | refine WQ.xG ?_ | refine WQ.pure ?_)
    | ((with_reducible refine WQ.gid ?_); first | refine WQ.on rfl ?_ | refine WQ.offN rfl rfl ?_)
    | ((with_reducible refine WO.cid ?_); first
      | refine WO.x ?_ | (refine op_alloc hg ?_; clear hg; intro b w hg; refine WO.fr ?_) | (refine op_boxA hg ?_; clear hg; intro b w hg; refine WO.fr ?_) | (refine op_box1 hg ?_; clear hg; intro b w hg; refine WO.fr ?_)
      | (refine op_store hg ?_; clear hg; intro w hg; refine WO.fr ?_; try simp only [List.set_cons_succ, List.set_cons_zero] at hg)
      | (refine op_storeA hg ?_; clear hg; intro w hg; refine WO.fr ?_; try simp only [over, List.take_zero, List.take_succ_cons, List.drop_zero, List.drop_succ_cons, List.nil_append, List.cons_append, List.append_nil, List.length_cons, List.length_nil, Nat.zero_add, Nat.reduceAdd, splice, cellsL] at hg)
      | (refine op_pure hg ?_; clear hg; intro w hg; refine WO.fr ?_) | (refine op_pureB hg ?_; clear hg; intro w hg c hc; cases c <;> refine WO.fr ?_))
    | ((with_reducible refine WO.gid ?_); first | refine WO.on rfl ?_ | refine WO.offN rfl rfl ?_))
  with_reducible refine QX.norm ?_
  refine hK _ _ _ ?_ ?_ ?_
  · simp only [setAll, List.map_cons, List.map_nil, gt, List.set_cons_succ, List.set_cons_zero]
  all_goals simp only [List.map_cons, List.map_nil, gt, intOf]
  · refine ⟨j + 1, a2, c2', f2, trivial, rfl, .inr (by omega), rfl, ?_, hg.sub (by simp)⟩
    rw [List.take_add_one, List.getElem?_drop, List.getElem?_eq_getElem (by omega)]
    simpa [bcells] using hW
  · omega

set_option maxHeartbeats 4000000 in
theorem rCopy_spec (hF : RingF pr n bl fl en f) (hO : ∀ p ∈ f, w0.heap[p.1]? = some p.2) (hpos : 0 < n) (hn : n ≤ 100000) (hbl : bl.length = n) :
    Calls Try.prog 68 #[.pointer (some ⟨pr, 0, none⟩)] w0 fun e w' => ∃ pr' f', e = .returned (.pointer (some ⟨pr', 0, none⟩)) ∧ RingF pr' n bl fl en f' ∧ Goes w0 [] [f'] w' := by
  have hcells := fun {w : World} {Fs : List Frag} (h : Goes w0 [] Fs w) => heap_goes hO h
  obtain ⟨g, rfl⟩ := hF
  have hg := Goes.refl w0
  have hst : ∀ {w Fs}, Goes w0 [] Fs w → (w.heap[pr]? = some (.cells [.slice (some ⟨g, 0, none⟩) n n, .int .i64 (fl : Nat), .int .i64 (en : Nat)].toArray 112 (0, 0))) := fun h => hcells h (pr, _) (by simp)
  have hsg : ∀ {w Fs}, Goes w0 [] Fs w → w.heap[g]? = some (.cells (bcells bl).toArray 5 (0, 0)) := fun h => hcells h (g, _) (by simp)
  have c1 : ∀ {w Fs}, Goes w0 [] Fs w → w.cell? ⟨pr, 0, none⟩ = some (.slice (some ⟨g, 0, none⟩) n n) := fun h => heap_cell (hst h) rfl
  have p1 : ∀ {w Fs}, Goes w0 [] Fs w → Calls Try.prog 77 #[.pointer (some ⟨pr, 0, none⟩)] w _ := fun h => rmade_cell (c1 h) hpos
  refine enter Try.func68 rfl (by simp only [Try.ntmps68, List.length_cons, List.length_nil, Nat.reduceAdd, Nat.reduceSub, List.replicate_succ, List.replicate_zero, List.cons_append, List.nil_append]; exact rfl) ?_
  repeat' (first
    | with_reducible refine QX.next ?_ | with_reducible refine WC.seq ?_ | with_reducible refine WC.region ?_ | with_reducible refine WC.block ?_ | with_reducible refine QX.bnorm ?_ | with_reducible refine QX.bret ?_ | with_reducible refine QX.ret ?_ | with_reducible refine QX.exit ?_ | with_reducible refine QX.bsame ?_ | with_reducible refine QX.bother rfl ?_
    | with_reducible refine WO.nil ?_ | with_reducible refine WC.skip ?_ | with_reducible refine WC.ret ?_ | with_reducible refine WC.exit ?_ | ((with_reducible refine WC.id ?_); first | refine WC.condT rfl ?_ | refine WC.condF rfl ?_)
    | ((with_reducible refine WQ.cid ?_); first | refine WQ.xG ?_ | refine WQ.pure ?_)
    | ((with_reducible refine WQ.gid ?_); first | refine WQ.on rfl ?_ | refine WQ.offN rfl rfl ?_)
    | ((with_reducible refine WO.cid ?_); first
      | refine WO.x ?_ | (refine op_alloc hg ?_; clear hg; intro b w hg; refine WO.fr ?_) | (refine op_boxA hg ?_; clear hg; intro b w hg; refine WO.fr ?_) | (refine op_box1 hg ?_; clear hg; intro b w hg; refine WO.fr ?_)
      | (refine op_store hg ?_; clear hg; intro w hg; refine WO.fr ?_; try simp only [List.set_cons_succ, List.set_cons_zero] at hg)
      | (refine op_storeA hg ?_; clear hg; intro w hg; refine WO.fr ?_; try simp only [over, List.take_zero, List.take_succ_cons, List.drop_zero, List.drop_succ_cons, List.nil_append, List.cons_append, List.append_nil, List.length_cons, List.length_nil, Nat.zero_add, Nat.reduceAdd, splice, cellsL] at hg)
      | (refine op_pure hg ?_; clear hg; intro w hg; refine WO.fr ?_) | (refine op_pureB hg ?_; clear hg; intro w hg c hc; cases c <;> refine WO.fr ?_))
    | ((with_reducible refine WO.gid ?_); first | refine WO.on rfl ?_ | refine WO.offN rfl rfl ?_))
  clear c1 p1
  have s1 : ∀ {w : World}, (w.heap[pr]? = some (.cells [.slice (some ⟨g, 0, none⟩) n n, .int .i64 (fl : Nat), .int .i64 (en : Nat)].toArray 112 (0, 0))) → w.cell? ⟨pr, 0, none⟩ = some (.slice (some ⟨g, 0, none⟩) n n) := fun h => heap_cell h rfl
  have s2 : ∀ {w : World}, (w.heap[pr]? = some (.cells [.slice (some ⟨g, 0, none⟩) n n, .int .i64 (fl : Nat), .int .i64 (en : Nat)].toArray 112 (0, 0))) → w.cell? ⟨pr, 1, none⟩ = some (.int .i64 fl) := fun h => heap_cell h rfl
  have s3 : ∀ {w : World}, (w.heap[pr]? = some (.cells [.slice (some ⟨g, 0, none⟩) n n, .int .i64 (fl : Nat), .int .i64 (en : Nat)].toArray 112 (0, 0))) → w.cell? ⟨pr, 2, none⟩ = some (.int .i64 en) := fun h => heap_cell h rfl
  refine WC.drawn (fun w => w.heap[pr]? = some (.cells [.slice (some ⟨g, 0, none⟩) n n, .int .i64 (fl : Nat), .int .i64 (en : Nat)].toArray 112 (0, 0))) [] hg ?_
  clear hg
  intro w hg
  have hS : (fun w => w.heap[pr]? = some (.cells [.slice (some ⟨g, 0, none⟩) n n, .int .i64 (fl : Nat), .int .i64 (en : Nat)].toArray 112 (0, 0))) w := hst hg
  refine WA.passM 0 hS ?_
  refine WA.passM 1 hS ?_
  refine WA.passM 2 hS ?_
  refine WA.passM 6 hS ?_
  refine WA.passM 7 hS ?_
  refine WA.passM 8 hS ?_
  refine WA.passM 10 hS ?_
  refine WA.passM 11 hS ?_
  refine WA.passM 12 hS ?_
  refine WA.passM 3 hS ?_
  refine WA.passM 4 hS ?_
  refine WA.passM 9 hS ?_
  refine WA.passM 13 hS ?_
  refine WA.only 5 ?_
  refine op_make (m := n) (c := n) hg ?_
  clear hg hS
  intro g2 w hg
  refine WO.fr ?_
  have hS : (fun w => w.heap[pr]? = some (.cells [.slice (some ⟨g, 0, none⟩) n n, .int .i64 (fl : Nat), .int .i64 (en : Nat)].toArray 112 (0, 0))) w := hst hg
  refine WO.nilA hS ?_
  refine WA.passM 14 hS ?_
  refine WA.only 15 ?_
  refine op_boxA hg ?_
  clear hg hS
  intro b w hg
  refine WO.fr ?_
  have hS : (fun w => w.heap[pr]? = some (.cells [.slice (some ⟨g, 0, none⟩) n n, .int .i64 (fl : Nat), .int .i64 (en : Nat)].toArray 112 (0, 0))) w := hst hg
  refine WO.nilA hS ?_
  refine WA.passM 16 hS ?_
  refine WA.nil ?_
  clear hS s1 s2 s3
  repeat' (first
    | with_reducible refine QX.next ?_ | with_reducible refine WC.seq ?_ | with_reducible refine WC.region ?_ | with_reducible refine WC.block ?_ | with_reducible refine QX.bnorm ?_ | with_reducible refine QX.bret ?_ | with_reducible refine QX.ret ?_ | with_reducible refine QX.exit ?_ | with_reducible refine QX.bsame ?_ | with_reducible refine QX.bother rfl ?_
    | with_reducible refine WO.nil ?_ | with_reducible refine WC.skip ?_ | with_reducible refine WC.ret ?_ | with_reducible refine WC.exit ?_ | ((with_reducible refine WC.id ?_); first | refine WC.condT rfl ?_ | refine WC.condF rfl ?_)
    | ((with_reducible refine WQ.cid ?_); first | refine WQ.xG ?_ | refine WQ.pure ?_)
    | ((with_reducible refine WQ.gid ?_); first | refine WQ.on rfl ?_ | refine WQ.offN rfl rfl ?_)
    | ((with_reducible refine WO.cid ?_); first
      | refine WO.x ?_ | (refine op_alloc hg ?_; clear hg; intro b w hg; refine WO.fr ?_) | (refine op_boxA hg ?_; clear hg; intro b w hg; refine WO.fr ?_) | (refine op_box1 hg ?_; clear hg; intro b w hg; refine WO.fr ?_)
      | (refine op_store hg ?_; clear hg; intro w hg; refine WO.fr ?_; try simp only [List.set_cons_succ, List.set_cons_zero] at hg)
      | (refine op_storeA hg ?_; clear hg; intro w hg; refine WO.fr ?_; try simp only [over, List.take_zero, List.take_succ_cons, List.drop_zero, List.drop_succ_cons, List.nil_append, List.cons_append, List.append_nil, List.length_cons, List.length_nil, Nat.zero_add, Nat.reduceAdd, splice, cellsL] at hg)
      | (refine op_pure hg ?_; clear hg; intro w hg; refine WO.fr ?_) | (refine op_pureB hg ?_; clear hg; intro w hg c hc; cases c <;> refine WO.fr ?_))
    | ((with_reducible refine WO.gid ?_); first | refine WO.on rfl ?_ | refine WO.offN rfl rfl ?_))
  have s1 : ∀ {w : World}, ((w.heap[pr]? = some (.cells [.slice (some ⟨g, 0, none⟩) n n, .int .i64 (fl : Nat), .int .i64 (en : Nat)].toArray 112 (0, 0))) ∧ w.heap[b]? = some (.cells [.slice (some ⟨g2, 0, none⟩) n n, .int .i64 (fl : Nat), .int .i64 (en : Nat)].toArray 112 (0, 0))) → w.cell? ⟨pr, 0, none⟩ = some (.slice (some ⟨g, 0, none⟩) n n) := fun h => heap_cell h.1 rfl
  have s2 : ∀ {w : World}, ((w.heap[pr]? = some (.cells [.slice (some ⟨g, 0, none⟩) n n, .int .i64 (fl : Nat), .int .i64 (en : Nat)].toArray 112 (0, 0))) ∧ w.heap[b]? = some (.cells [.slice (some ⟨g2, 0, none⟩) n n, .int .i64 (fl : Nat), .int .i64 (en : Nat)].toArray 112 (0, 0))) → w.cell? ⟨b, 0, none⟩ = some (.slice (some ⟨g2, 0, none⟩) n n) := fun h => heap_cell h.2 rfl
  refine WC.drawn (fun w => (w.heap[pr]? = some (.cells [.slice (some ⟨g, 0, none⟩) n n, .int .i64 (fl : Nat), .int .i64 (en : Nat)].toArray 112 (0, 0))) ∧ w.heap[b]? = some (.cells [.slice (some ⟨g2, 0, none⟩) n n, .int .i64 (fl : Nat), .int .i64 (en : Nat)].toArray 112 (0, 0))) [8] hg ?_
  clear hg
  intro w hg
  have hS : (fun w => (w.heap[pr]? = some (.cells [.slice (some ⟨g, 0, none⟩) n n, .int .i64 (fl : Nat), .int .i64 (en : Nat)].toArray 112 (0, 0))) ∧ w.heap[b]? = some (.cells [.slice (some ⟨g2, 0, none⟩) n n, .int .i64 (fl : Nat), .int .i64 (en : Nat)].toArray 112 (0, 0))) w := ⟨hst hg, hg.own (b, _) (by simp)⟩
  refine WA.passM 0 hS ?_
  refine WA.passM 1 hS ?_
  refine WA.passM 2 hS ?_
  refine WA.passM 4 hS ?_
  refine WA.passM 5 hS ?_
  refine WA.passM 6 hS ?_
  refine WA.passM 3 hS ?_
  refine WA.passM 7 hS ?_
  refine WA.only 8 ?_
  refine op_copyRow (cs := bcells bl) (bl := List.replicate n (.int .u8 0)) (p := ⟨g, 0, none⟩) hg (heap_cells (c := bcells bl) (cs := bcells bl) (k := 0) (b := g) (hsg hg) (by simp)) (by rw [bcells_len, hbl]) (by simp) (fun v hv => by obtain ⟨x, _, rfl⟩ := List.mem_map.1 hv; rfl) ?_
  clear hg hS
  intro w hg
  refine WO.fr ?_
  refine WO.nilL ?_
  refine WA.nil ?_
  repeat' (first
    | with_reducible refine QX.next ?_ | with_reducible refine WC.seq ?_ | with_reducible refine WC.region ?_ | with_reducible refine WC.block ?_ | with_reducible refine QX.bnorm ?_ | with_reducible refine QX.bret ?_ | with_reducible refine QX.ret ?_ | with_reducible refine QX.exit ?_ | with_reducible refine QX.bsame ?_ | with_reducible refine QX.bother rfl ?_
    | with_reducible refine WO.nil ?_ | with_reducible refine WC.skip ?_ | with_reducible refine WC.ret ?_ | with_reducible refine WC.exit ?_ | ((with_reducible refine WC.id ?_); first | refine WC.condT rfl ?_ | refine WC.condF rfl ?_)
    | (refine WC.quietG hg ?_; clear hg) | ((with_reducible refine WQ.nilG ?_); intro w hg)
    | ((with_reducible refine WQ.cid ?_); first | refine WQ.xG ?_ | refine WQ.pure ?_)
    | ((with_reducible refine WQ.gid ?_); first | refine WQ.on rfl ?_ | refine WQ.offN rfl rfl ?_)
    | ((with_reducible refine WO.cid ?_); first
      | refine WO.x ?_ | (refine op_alloc hg ?_; clear hg; intro b w hg; refine WO.fr ?_) | (refine op_boxA hg ?_; clear hg; intro b w hg; refine WO.fr ?_) | (refine op_box1 hg ?_; clear hg; intro b w hg; refine WO.fr ?_)
      | (refine op_store hg ?_; clear hg; intro w hg; refine WO.fr ?_; try simp only [List.set_cons_succ, List.set_cons_zero] at hg)
      | (refine op_storeA hg ?_; clear hg; intro w hg; refine WO.fr ?_; try simp only [over, List.take_zero, List.take_succ_cons, List.drop_zero, List.drop_succ_cons, List.nil_append, List.cons_append, List.append_nil, List.length_cons, List.length_nil, Nat.zero_add, Nat.reduceAdd, splice, cellsL] at hg)
      | (refine op_pure hg ?_; clear hg; intro w hg; refine WO.fr ?_) | (refine op_pureB hg ?_; clear hg; intro w hg c hc; cases c <;> refine WO.fr ?_))
    | ((with_reducible refine WO.gid ?_); first | refine WO.on rfl ?_ | refine WO.offN rfl rfl ?_))
  exact ret1 rfl ⟨b, [(b, _), (g2, _)], rfl, ⟨g2, rfl⟩, hg.perm (by simp)⟩
end
end Go.Proofs.Ytdjepfpmoeecaaa
