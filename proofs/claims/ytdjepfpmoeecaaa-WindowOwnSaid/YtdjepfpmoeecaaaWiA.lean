/- The ring: plain laws; as it lies; Floor, End, Len, Left, place, New, Raise, At. -/
import Derived.Test.YtdjepfpmoeecaaaFacts
import Derived.Test.YtdjepfpmoeecaaaWiO
import Derived.Test.YtdjepfpmoeecaaaDrawM
namespace Go.Proofs.Ytdjepfpmoeecaaa
open Go Go.RowKit
set_option maxRecDepth 10000
set_option linter.unusedSimpArgs false
set_option linter.unusedVariables false

structure RingOK (n : Nat) (bl : List UInt8) (fl : Nat) (all : List UInt8) : Prop where
  len : bl.length = n
  pos : 0 < n
  fle : fl ≤ all.length
  fit : all.length ≤ fl + n
  mem : ∀ i, fl ≤ i → i < all.length → bl[i % n]? = all[i]?

theorem RingOK.new {n : Nat} (h : 0 < n) : RingOK n (List.replicate n 0) 0 [] := ⟨by simp, h, by simp, by simp, fun i _ h => by simp at h⟩
theorem RingOK.raise {n fl fl' : Nat} {bl all : List UInt8} (H : RingOK n bl fl all) (h1 : fl ≤ fl') (h2 : fl' ≤ all.length) : RingOK n bl fl' all :=
  ⟨H.len, H.pos, h2, by have := H.fit; omega, fun i hi hl => H.mem i (by omega) hl⟩
theorem RingOK.put {n fl : Nat} {bl all : List UInt8} (H : RingOK n bl fl all) (s : List UInt8) (hs : all.length + s.length ≤ fl + n) (k : Nat) (hk : k = min s.length (n - all.length % n)) :
    RingOK n (bl.take (all.length % n) ++ s.take k ++ bl.drop (all.length % n + k)) fl (all ++ s.take k) := by
  have hp := Nat.mod_lt all.length H.pos
  have hd := Nat.div_add_mod all.length n
  have hl := H.len
  have hst : (s.take k).length = k := by simp; omega
  refine ⟨by simp; omega, H.pos, by have := H.fle; simp; omega, by simp; omega, fun i hi hlt => ?_⟩
  rw [List.length_append, hst] at hlt
  have hid := Nat.div_add_mod i n
  have him := Nat.mod_lt i H.pos
  generalize hq : all.length / n = q at hd
  generalize hqi : i / n = qi at hid
  by_cases hil : i < all.length
  · rw [List.getElem?_append_left hil, ← H.mem i hi hil]
    have hout : i % n < all.length % n ∨ all.length % n + k ≤ i % n := by
      rcases Nat.lt_trichotomy qi q with h | h | h
      · right
        have : n * qi + n ≤ n * q := by rw [← Nat.mul_succ]; exact Nat.mul_le_mul_left _ h
        omega
      · left
        subst h
        omega
      · exfalso
        have : n * q + n ≤ n * qi := by rw [← Nat.mul_succ]; exact Nat.mul_le_mul_left _ h
        omega
    rcases hout with h | h
    · rw [List.append_assoc, List.getElem?_append_left (by simp; omega), List.getElem?_take, if_pos h]
    · rw [List.getElem?_append_right (by simp; omega), List.getElem?_drop]
      congr 1
      simp
      omega
  · obtain ⟨j, rfl⟩ : ∃ j, i = all.length + j := ⟨i - all.length, by omega⟩
    have hr : (all.length + j) % n = all.length % n + j := by
      have : all.length + j = n * q + (all.length % n + j) := by omega
      rw [this, Nat.mul_add_mod]
      rw [Nat.mod_eq_of_lt (by omega)]
    have eR : (all ++ s.take k)[all.length + j]? = (s.take k)[j]? := by
      rw [List.getElem?_append_right (by omega)]
      congr 1
      omega
    have ht : (bl.take (all.length % n)).length = all.length % n := by simp; omega
    have eL : (bl.take (all.length % n) ++ s.take k ++ bl.drop (all.length % n + k))[all.length % n + j]? = (s.take k)[j]? := by
      rw [List.append_assoc, List.getElem?_append_right (by omega), List.getElem?_append_left (by omega)]
      congr 1
      omega
    rw [hr, eL, eR]

/-- The ring as it lies. -/
def RingF (pr n : Nat) (bl : List UInt8) (fl en : Nat) (f : Frag) : Prop := ∃ g, f = [(pr, .cells [.slice (some ⟨g, 0, none⟩) n n, .int .i64 (fl : Nat), .int .i64 (en : Nat)].toArray 112 (0, 0)), (g, .cells (bcells bl).toArray 5 (0, 0))]

section
variable {pr n fl en : Nat} {bl : List UInt8} {f : Frag} {w0 : World}
theorem rmade_cell {a : Option Addr} {c : Nat} (hc : w0.cell? ⟨pr, 0, none⟩ = some (.slice a n c)) (hn : 0 < n) : Calls Try.prog 77 #[.pointer (some ⟨pr, 0, none⟩)] w0 fun e w' => e = .returned (.bool true) ∧ Goes w0 [] [] w' := by
  have hg := Goes.refl w0
  have c1 : ∀ {w' Fs}, Goes w0 [] Fs w' → w'.cell? ⟨pr, 0, none⟩ = some (.slice a n c) := fun h => h.cellOld0 hc
  refine enter Try.func77 rfl (by simp only [Try.ntmps77, List.length_cons, List.length_nil, Nat.reduceAdd, Nat.reduceSub, List.replicate_succ, List.replicate_zero, List.cons_append, List.nil_append]; exact rfl) ?_
  repeat' (first
    | with_reducible refine QX.next ?_ | with_reducible refine WC.seq ?_ | with_reducible refine WC.region ?_ | with_reducible refine WC.block ?_ | with_reducible refine QX.bnorm ?_ | with_reducible refine QX.bret ?_ | with_reducible refine QX.ret ?_ | with_reducible refine QX.exit ?_ | with_reducible refine QX.bsame ?_ | with_reducible refine QX.bother rfl ?_
    | with_reducible refine WO.nil ?_ | with_reducible refine WC.skip ?_ | with_reducible refine WC.ret ?_ | with_reducible refine WC.exit ?_ | ((with_reducible refine WC.id ?_); first | refine WC.condT rfl ?_ | refine WC.condF rfl ?_)
    | (refine WC.quietG hg ?_; clear hg) | ((with_reducible refine WQ.nilG ?_); intro w hg)
    | ((with_reducible refine WQ.cid ?_); first | refine WQ.xG ?_ | refine WQ.pure ?_)
    | ((with_reducible refine WQ.gid ?_); first | refine WQ.on rfl ?_ | refine WQ.offN rfl rfl ?_)
    | ((with_reducible refine WO.cid ?_); first
      | refine WO.x ?_ | (refine op_alloc hg ?_; clear hg; intro b w hg; refine WO.fr ?_) | (refine op_boxA hg ?_; clear hg; intro b w hg; refine WO.fr ?_) | (refine op_box1 hg ?_; clear hg; intro b w hg; refine WO.fr ?_)
      | (refine op_store hg ?_; clear hg; intro w hg; refine WO.fr ?_; try simp only [List.set_cons_succ, List.set_cons_zero] at hg)
      | (refine op_storeA hg ?_; clear hg; intro w hg; refine WO.fr ?_; try simp only [over, List.take_zero, List.take_succ_cons, List.drop_zero, List.drop_succ_cons, List.nil_append, List.cons_append, List.append_nil, List.length_cons, List.length_nil, Nat.zero_add, Nat.reduceAdd, splice, cellsL] at hg)
      | (refine op_pure hg ?_; clear hg; intro w hg; refine WO.fr ?_) | (refine op_pureB hg ?_; clear hg; intro w hg c hc; cases c <;> refine WO.fr ?_))
    | ((with_reducible refine WO.gid ?_); first | refine WO.on rfl ?_ | refine WO.offN rfl rfl ?_))
  exact ret1 rfl ⟨rfl, hg.drop⟩
/-- What is known of a ring in whatever world its blocks lie as they were. -/
theorem RingF.cells (hF : RingF pr n bl fl en f) {w : World} (h : ∀ p ∈ f, w.heap[p.1]? = some p.2) : ∃ g, w.cell? ⟨pr, 0, none⟩ = some (.slice (some ⟨g, 0, none⟩) n n) ∧ w.cell? ⟨pr, 1, none⟩ = some (.int .i64 fl) ∧ w.cell? ⟨pr, 2, none⟩ = some (.int .i64 en) ∧ w.heap[g]? = some (.cells (bcells bl).toArray 5 (0, 0)) := by
  obtain ⟨g, rfl⟩ := hF
  have h1 := h (pr, .cells [.slice (some ⟨g, 0, none⟩) n n, .int .i64 (fl : Nat), .int .i64 (en : Nat)].toArray 112 (0, 0)) (by simp)
  exact ⟨g, heap_cell h1 rfl, heap_cell h1 rfl, heap_cell h1 rfl, h (g, .cells (bcells bl).toArray 5 (0, 0)) (by simp)⟩
theorem rFloor_spec (hF : RingF pr n bl fl en f) (hO : ∀ p ∈ f, w0.heap[p.1]? = some p.2) (hn : 0 < n) : Calls Try.prog 76 #[.pointer (some ⟨pr, 0, none⟩)] w0 fun e w' => e = .returned (.int .i64 fl) ∧ Goes w0 [] [] w' := by
  obtain ⟨g, h0, h1, h2, h3⟩ := hF.cells hO
  have hg := Goes.refl w0
  have c1 : ∀ {w Fs}, Goes w0 [] Fs w → w.cell? ⟨pr, 1, none⟩ = some (.int .i64 fl) := fun g => g.cellOld0 h1
  have p1 : ∀ {w Fs}, Goes w0 [] Fs w → Calls Try.prog 77 #[.pointer (some ⟨pr, 0, none⟩)] w _ := fun g => rmade_cell (g.cellOld0 h0) hn
  refine enter Try.func76 rfl (by simp only [Try.ntmps76, List.length_cons, List.length_nil, Nat.reduceAdd, Nat.reduceSub, List.replicate_succ, List.replicate_zero, List.cons_append, List.nil_append]; exact rfl) ?_
  repeat' (first
    | with_reducible refine QX.next ?_ | with_reducible refine WC.seq ?_ | with_reducible refine WC.region ?_ | with_reducible refine WC.block ?_ | with_reducible refine QX.bnorm ?_ | with_reducible refine QX.bret ?_ | with_reducible refine QX.ret ?_ | with_reducible refine QX.exit ?_ | with_reducible refine QX.bsame ?_ | with_reducible refine QX.bother rfl ?_
    | with_reducible refine WO.nil ?_ | with_reducible refine WC.skip ?_ | with_reducible refine WC.ret ?_ | with_reducible refine WC.exit ?_ | ((with_reducible refine WC.id ?_); first | refine WC.condT rfl ?_ | refine WC.condF rfl ?_)
    | (refine WC.quietG hg ?_; clear hg) | ((with_reducible refine WQ.nilG ?_); intro w hg)
    | ((with_reducible refine WQ.cid ?_); first | refine WQ.xG ?_ | refine WQ.pure ?_)
    | ((with_reducible refine WQ.gid ?_); first | refine WQ.on rfl ?_ | refine WQ.offN rfl rfl ?_)
    | ((with_reducible refine WO.cid ?_); first
      | refine WO.x ?_ | (refine op_alloc hg ?_; clear hg; intro b w hg; refine WO.fr ?_) | (refine op_boxA hg ?_; clear hg; intro b w hg; refine WO.fr ?_) | (refine op_box1 hg ?_; clear hg; intro b w hg; refine WO.fr ?_)
      | (refine op_store hg ?_; clear hg; intro w hg; refine WO.fr ?_; try simp only [List.set_cons_succ, List.set_cons_zero] at hg)
      | (refine op_storeA hg ?_; clear hg; intro w hg; refine WO.fr ?_; try simp only [over, List.take_zero, List.take_succ_cons, List.drop_zero, List.drop_succ_cons, List.nil_append, List.cons_append, List.append_nil, List.length_cons, List.length_nil, Nat.zero_add, Nat.reduceAdd, splice, cellsL] at hg)
      | (refine op_pure hg ?_; clear hg; intro w hg; refine WO.fr ?_) | (refine op_pureB hg ?_; clear hg; intro w hg c hc; cases c <;> refine WO.fr ?_))
    | ((with_reducible refine WO.gid ?_); first | refine WO.on rfl ?_ | refine WO.offN rfl rfl ?_))
  exact ret1 rfl ⟨rfl, hg.drop⟩
theorem rEnd_spec (hF : RingF pr n bl fl en f) (hO : ∀ p ∈ f, w0.heap[p.1]? = some p.2) (hn : 0 < n) : Calls Try.prog 75 #[.pointer (some ⟨pr, 0, none⟩)] w0 fun e w' => e = .returned (.int .i64 en) ∧ Goes w0 [] [] w' := by
  obtain ⟨g, h0, h1, h2, h3⟩ := hF.cells hO
  have hg := Goes.refl w0
  have c1 : ∀ {w Fs}, Goes w0 [] Fs w → w.cell? ⟨pr, 2, none⟩ = some (.int .i64 en) := fun g => g.cellOld0 h2
  have p1 : ∀ {w Fs}, Goes w0 [] Fs w → Calls Try.prog 77 #[.pointer (some ⟨pr, 0, none⟩)] w _ := fun g => rmade_cell (g.cellOld0 h0) hn
  refine enter Try.func75 rfl (by simp only [Try.ntmps75, List.length_cons, List.length_nil, Nat.reduceAdd, Nat.reduceSub, List.replicate_succ, List.replicate_zero, List.cons_append, List.nil_append]; exact rfl) ?_
  repeat' (first
    | with_reducible refine QX.next ?_ | with_reducible refine WC.seq ?_ | with_reducible refine WC.region ?_ | with_reducible refine WC.block ?_ | with_reducible refine QX.bnorm ?_ | with_reducible refine QX.bret ?_ | with_reducible refine QX.ret ?_ | with_reducible refine QX.exit ?_ | with_reducible refine QX.bsame ?_ | with_reducible refine QX.bother rfl ?_
    | with_reducible refine WO.nil ?_ | with_reducible refine WC.skip ?_ | with_reducible refine WC.ret ?_ | with_reducible refine WC.exit ?_ | ((with_reducible refine WC.id ?_); first | refine WC.condT rfl ?_ | refine WC.condF rfl ?_)
    | (refine WC.quietG hg ?_; clear hg) | ((with_reducible refine WQ.nilG ?_); intro w hg)
    | ((with_reducible refine WQ.cid ?_); first | refine WQ.xG ?_ | refine WQ.pure ?_)
    | ((with_reducible refine WQ.gid ?_); first | refine WQ.on rfl ?_ | refine WQ.offN rfl rfl ?_)
    | ((with_reducible refine WO.cid ?_); first
      | refine WO.x ?_ | (refine op_alloc hg ?_; clear hg; intro b w hg; refine WO.fr ?_) | (refine op_boxA hg ?_; clear hg; intro b w hg; refine WO.fr ?_) | (refine op_box1 hg ?_; clear hg; intro b w hg; refine WO.fr ?_)
      | (refine op_store hg ?_; clear hg; intro w hg; refine WO.fr ?_; try simp only [List.set_cons_succ, List.set_cons_zero] at hg)
      | (refine op_storeA hg ?_; clear hg; intro w hg; refine WO.fr ?_; try simp only [over, List.take_zero, List.take_succ_cons, List.drop_zero, List.drop_succ_cons, List.nil_append, List.cons_append, List.append_nil, List.length_cons, List.length_nil, Nat.zero_add, Nat.reduceAdd, splice, cellsL] at hg)
      | (refine op_pure hg ?_; clear hg; intro w hg; refine WO.fr ?_) | (refine op_pureB hg ?_; clear hg; intro w hg c hc; cases c <;> refine WO.fr ?_))
    | ((with_reducible refine WO.gid ?_); first | refine WO.on rfl ?_ | refine WO.offN rfl rfl ?_))
  exact ret1 rfl ⟨rfl, hg.drop⟩
theorem heap_goes {w : World} {Fs : List Frag} (hO : ∀ p ∈ f, w0.heap[p.1]? = some p.2) (hg : Goes w0 [] Fs w) : ∀ p ∈ f, w.heap[p.1]? = some p.2 :=
  fun p hp => (hg.old p.1 (Array.getElem?_eq_some_iff.1 (hO p hp)).1 (by simp)).trans (hO p hp)
theorem rLen_spec (hF : RingF pr n bl fl en f) (hO : ∀ p ∈ f, w0.heap[p.1]? = some p.2) (hn : 0 < n) (he : en ≤ 1000000 ∧ fl ≤ 1000000) : Calls Try.prog 78 #[.pointer (some ⟨pr, 0, none⟩)] w0 fun e w' => e = .returned (.int .i64 ((en : Int) - fl)) ∧ Goes w0 [] [] w' := by
  have hg := Goes.refl w0
  have p1 : ∀ {w Fs}, Goes w0 [] Fs w → Calls Try.prog 75 #[.pointer (some ⟨pr, 0, none⟩)] w _ := fun g => rEnd_spec hF (heap_goes hO g) hn
  have p2 : ∀ {w Fs}, Goes w0 [] Fs w → Calls Try.prog 76 #[.pointer (some ⟨pr, 0, none⟩)] w _ := fun g => rFloor_spec hF (heap_goes hO g) hn
  refine enter Try.func78 rfl (by simp only [Try.ntmps78, List.length_cons, List.length_nil, Nat.reduceAdd, Nat.reduceSub, List.replicate_succ, List.replicate_zero, List.cons_append, List.nil_append]; exact rfl) ?_
  repeat' (first
    | with_reducible refine QX.next ?_ | with_reducible refine WC.seq ?_ | with_reducible refine WC.region ?_ | with_reducible refine WC.block ?_ | with_reducible refine QX.bnorm ?_ | with_reducible refine QX.bret ?_ | with_reducible refine QX.ret ?_ | with_reducible refine QX.exit ?_ | with_reducible refine QX.bsame ?_ | with_reducible refine QX.bother rfl ?_
    | with_reducible refine WO.nil ?_ | with_reducible refine WC.skip ?_ | with_reducible refine WC.ret ?_ | with_reducible refine WC.exit ?_ | ((with_reducible refine WC.id ?_); first | refine WC.condT rfl ?_ | refine WC.condF rfl ?_)
    | (refine WC.quietG hg ?_; clear hg) | ((with_reducible refine WQ.nilG ?_); intro w hg)
    | ((with_reducible refine WQ.cid ?_); first | refine WQ.xG ?_ | refine WQ.pure ?_)
    | ((with_reducible refine WQ.gid ?_); first | refine WQ.on rfl ?_ | refine WQ.offN rfl rfl ?_)
    | ((with_reducible refine WO.cid ?_); first
      | refine WO.x ?_ | (refine op_alloc hg ?_; clear hg; intro b w hg; refine WO.fr ?_) | (refine op_boxA hg ?_; clear hg; intro b w hg; refine WO.fr ?_) | (refine op_box1 hg ?_; clear hg; intro b w hg; refine WO.fr ?_)
      | (refine op_store hg ?_; clear hg; intro w hg; refine WO.fr ?_; try simp only [List.set_cons_succ, List.set_cons_zero] at hg)
      | (refine op_storeA hg ?_; clear hg; intro w hg; refine WO.fr ?_; try simp only [over, List.take_zero, List.take_succ_cons, List.drop_zero, List.drop_succ_cons, List.nil_append, List.cons_append, List.append_nil, List.length_cons, List.length_nil, Nat.zero_add, Nat.reduceAdd, splice, cellsL] at hg)
      | (refine op_pure hg ?_; clear hg; intro w hg; refine WO.fr ?_) | (refine op_pureB hg ?_; clear hg; intro w hg c hc; cases c <;> refine WO.fr ?_))
    | ((with_reducible refine WO.gid ?_); first | refine WO.on rfl ?_ | refine WO.offN rfl rfl ?_))
  exact ret1 rfl ⟨rfl, hg.drop⟩
theorem rLeft_spec (hF : RingF pr n bl fl en f) (hO : ∀ p ∈ f, w0.heap[p.1]? = some p.2) (hn : 0 < n ∧ n ≤ 1000000) (he : en ≤ 1000000 ∧ fl ≤ 1000000) : Calls Try.prog 73 #[.pointer (some ⟨pr, 0, none⟩)] w0 fun e w' => e = .returned (.int .i64 ((n : Int) - ((en : Int) - fl))) ∧ Goes w0 [] [] w' := by
  obtain ⟨g, h0, h1, h2, h3⟩ := hF.cells hO
  have hg := Goes.refl w0
  have c1 : ∀ {w Fs}, Goes w0 [] Fs w → w.cell? ⟨pr, 0, none⟩ = some (.slice (some ⟨g, 0, none⟩) n n) := fun g => g.cellOld0 h0
  have p1 : ∀ {w Fs}, Goes w0 [] Fs w → Calls Try.prog 77 #[.pointer (some ⟨pr, 0, none⟩)] w _ := fun g => rmade_cell (g.cellOld0 h0) hn.1
  have p2 : ∀ {w Fs}, Goes w0 [] Fs w → Calls Try.prog 78 #[.pointer (some ⟨pr, 0, none⟩)] w _ := fun g => rLen_spec hF (heap_goes hO g) hn.1 he
  refine enter Try.func73 rfl (by simp only [Try.ntmps73, List.length_cons, List.length_nil, Nat.reduceAdd, Nat.reduceSub, List.replicate_succ, List.replicate_zero, List.cons_append, List.nil_append]; exact rfl) ?_
  repeat' (first
    | with_reducible refine QX.next ?_ | with_reducible refine WC.seq ?_ | with_reducible refine WC.region ?_ | with_reducible refine WC.block ?_ | with_reducible refine QX.bnorm ?_ | with_reducible refine QX.bret ?_ | with_reducible refine QX.ret ?_ | with_reducible refine QX.exit ?_ | with_reducible refine QX.bsame ?_ | with_reducible refine QX.bother rfl ?_
    | with_reducible refine WO.nil ?_ | with_reducible refine WC.skip ?_ | with_reducible refine WC.ret ?_ | with_reducible refine WC.exit ?_ | ((with_reducible refine WC.id ?_); first | refine WC.condT rfl ?_ | refine WC.condF rfl ?_)
    | (refine WC.quietG hg ?_; clear hg) | ((with_reducible refine WQ.nilG ?_); intro w hg)
    | ((with_reducible refine WQ.cid ?_); first | refine WQ.xG ?_ | refine WQ.pure ?_)
    | ((with_reducible refine WQ.gid ?_); first | refine WQ.on rfl ?_ | refine WQ.offN rfl rfl ?_)
    | ((with_reducible refine WO.cid ?_); first
      | refine WO.x ?_ | (refine op_alloc hg ?_; clear hg; intro b w hg; refine WO.fr ?_) | (refine op_boxA hg ?_; clear hg; intro b w hg; refine WO.fr ?_) | (refine op_box1 hg ?_; clear hg; intro b w hg; refine WO.fr ?_)
      | (refine op_store hg ?_; clear hg; intro w hg; refine WO.fr ?_; try simp only [List.set_cons_succ, List.set_cons_zero] at hg)
      | (refine op_storeA hg ?_; clear hg; intro w hg; refine WO.fr ?_; try simp only [over, List.take_zero, List.take_succ_cons, List.drop_zero, List.drop_succ_cons, List.nil_append, List.cons_append, List.append_nil, List.length_cons, List.length_nil, Nat.zero_add, Nat.reduceAdd, splice, cellsL] at hg)
      | (refine op_pure hg ?_; clear hg; intro w hg; refine WO.fr ?_) | (refine op_pureB hg ?_; clear hg; intro w hg c hc; cases c <;> refine WO.fr ?_))
    | ((with_reducible refine WO.gid ?_); first | refine WO.on rfl ?_ | refine WO.offN rfl rfl ?_))
  exact ret1 rfl ⟨rfl, hg.drop⟩
theorem rplace_cell {a : Option Addr} {c : Nat} (i : Nat) (hc : w0.cell? ⟨pr, 0, none⟩ = some (.slice a n c)) (hn : 0 < n) : Calls Try.prog 74 #[.pointer (some ⟨pr, 0, none⟩), .int .i64 i] w0 fun e w' => e = .returned (.int .i64 (i % n : Nat)) ∧ Goes w0 [] [] w' := by
  have hg := Goes.refl w0
  have c1 : ∀ {w' Fs}, Goes w0 [] Fs w' → w'.cell? ⟨pr, 0, none⟩ = some (.slice a n c) := fun h => h.cellOld0 hc
  refine enter Try.func74 rfl (by simp only [Try.ntmps74, List.length_cons, List.length_nil, Nat.reduceAdd, Nat.reduceSub, List.replicate_succ, List.replicate_zero, List.cons_append, List.nil_append]; exact rfl) ?_
  repeat' (first
    | with_reducible refine QX.next ?_ | with_reducible refine WC.seq ?_ | with_reducible refine WC.region ?_ | with_reducible refine WC.block ?_ | with_reducible refine QX.bnorm ?_ | with_reducible refine QX.bret ?_ | with_reducible refine QX.ret ?_ | with_reducible refine QX.exit ?_ | with_reducible refine QX.bsame ?_ | with_reducible refine QX.bother rfl ?_
    | with_reducible refine WO.nil ?_ | with_reducible refine WC.skip ?_ | with_reducible refine WC.ret ?_ | with_reducible refine WC.exit ?_ | ((with_reducible refine WC.id ?_); first | refine WC.condT rfl ?_ | refine WC.condF rfl ?_)
    | (refine WC.quietG hg ?_; clear hg) | ((with_reducible refine WQ.nilG ?_); intro w hg)
    | ((with_reducible refine WQ.cid ?_); first | refine WQ.xG ?_ | refine WQ.pure ?_)
    | ((with_reducible refine WQ.gid ?_); first | refine WQ.on rfl ?_ | refine WQ.offN rfl rfl ?_)
    | ((with_reducible refine WO.cid ?_); first
      | refine WO.x ?_ | (refine op_alloc hg ?_; clear hg; intro b w hg; refine WO.fr ?_) | (refine op_boxA hg ?_; clear hg; intro b w hg; refine WO.fr ?_) | (refine op_box1 hg ?_; clear hg; intro b w hg; refine WO.fr ?_)
      | (refine op_store hg ?_; clear hg; intro w hg; refine WO.fr ?_; try simp only [List.set_cons_succ, List.set_cons_zero] at hg)
      | (refine op_storeA hg ?_; clear hg; intro w hg; refine WO.fr ?_; try simp only [over, List.take_zero, List.take_succ_cons, List.drop_zero, List.drop_succ_cons, List.nil_append, List.cons_append, List.append_nil, List.length_cons, List.length_nil, Nat.zero_add, Nat.reduceAdd, splice, cellsL] at hg)
      | (refine op_pure hg ?_; clear hg; intro w hg; refine WO.fr ?_) | (refine op_pureB hg ?_; clear hg; intro w hg c hc; cases c <;> refine WO.fr ?_))
    | ((with_reducible refine WO.gid ?_); first | refine WO.on rfl ?_ | refine WO.offN rfl rfl ?_))
  exact ret1 rfl ⟨rfl, hg.drop⟩
theorem rAt_spec {all : List UInt8} (i : Int) (hF : RingF pr n bl fl all.length f) (hO : ∀ p ∈ f, w0.heap[p.1]? = some p.2) (hR : RingOK n bl fl all) (hn : n ≤ 1000000) : Calls Try.prog 67 #[.pointer (some ⟨pr, 0, none⟩), .int .i64 i] w0 fun e w' =>
    (∃ b : Int, e = .returned (.tuple #[.int .u8 b, .bool (decide ((fl : Int) ≤ i) && decide (i < all.length))])) ∧ Goes w0 [] [] w' := by
  obtain ⟨g, h0, h1, h2, h3⟩ := hF.cells hO
  have hg := Goes.refl w0
  have c1 : ∀ {w Fs}, Goes w0 [] Fs w → w.cell? ⟨pr, 0, none⟩ = some (.slice (some ⟨g, 0, none⟩) n n) := fun g => g.cellOld0 h0
  have c2 : ∀ {w Fs}, Goes w0 [] Fs w → w.cell? ⟨pr, 1, none⟩ = some (.int .i64 fl) := fun g => g.cellOld0 h1
  have c3 : ∀ {w Fs}, Goes w0 [] Fs w → w.cell? ⟨pr, 2, none⟩ = some (.int .i64 all.length) := fun g => g.cellOld0 h2
  have p1 : ∀ {w Fs}, Goes w0 [] Fs w → Calls Try.prog 77 #[.pointer (some ⟨pr, 0, none⟩)] w _ := fun g => rmade_cell (g.cellOld0 h0) hR.pos
  by_cases hlo : i < fl
  · refine enter Try.func67 rfl (by simp only [Try.ntmps67, List.length_cons, List.length_nil, Nat.reduceAdd, Nat.reduceSub, List.replicate_succ, List.replicate_zero, List.cons_append, List.nil_append]; exact rfl) ?_
    repeat' (first
      | with_reducible refine QX.next ?_ | with_reducible refine WC.seq ?_ | with_reducible refine WC.region ?_ | with_reducible refine WC.block ?_ | with_reducible refine QX.bnorm ?_ | with_reducible refine QX.bret ?_ | with_reducible refine QX.ret ?_ | with_reducible refine QX.exit ?_ | with_reducible refine QX.bsame ?_ | with_reducible refine QX.bother rfl ?_
      | with_reducible refine WO.nil ?_ | with_reducible refine WC.skip ?_ | with_reducible refine WC.ret ?_ | with_reducible refine WC.exit ?_ | ((with_reducible refine WC.id ?_); first | refine WC.condT rfl ?_ | refine WC.condF rfl ?_)
      | (refine WC.quietG hg ?_; clear hg) | ((with_reducible refine WQ.nilG ?_); intro w hg)
      | ((with_reducible refine WQ.cid ?_); first | refine WQ.xG ?_ | refine WQ.pure ?_)
      | ((with_reducible refine WQ.gid ?_); first | refine WQ.on rfl ?_ | refine WQ.offN rfl rfl ?_)
      | ((with_reducible refine WO.cid ?_); first
        | refine WO.x ?_ | (refine op_alloc hg ?_; clear hg; intro b w hg; refine WO.fr ?_) | (refine op_boxA hg ?_; clear hg; intro b w hg; refine WO.fr ?_) | (refine op_box1 hg ?_; clear hg; intro b w hg; refine WO.fr ?_)
        | (refine op_store hg ?_; clear hg; intro w hg; refine WO.fr ?_; try simp only [List.set_cons_succ, List.set_cons_zero] at hg)
        | (refine op_storeA hg ?_; clear hg; intro w hg; refine WO.fr ?_; try simp only [over, List.take_zero, List.take_succ_cons, List.drop_zero, List.drop_succ_cons, List.nil_append, List.cons_append, List.append_nil, List.length_cons, List.length_nil, Nat.zero_add, Nat.reduceAdd, splice, cellsL] at hg)
        | (refine op_pure hg ?_; clear hg; intro w hg; refine WO.fr ?_) | (refine op_pureB hg ?_; clear hg; intro w hg c hc; cases c <;> refine WO.fr ?_))
      | ((with_reducible refine WO.gid ?_); first | refine WO.on rfl ?_ | refine WO.offN rfl rfl ?_))
    exact ret2 rfl ⟨⟨0, by rw [decide_eq_false (by omega)]; rfl⟩, hg.drop⟩
  by_cases hhi : (all.length : Int) ≤ i
  · refine enter Try.func67 rfl (by simp only [Try.ntmps67, List.length_cons, List.length_nil, Nat.reduceAdd, Nat.reduceSub, List.replicate_succ, List.replicate_zero, List.cons_append, List.nil_append]; exact rfl) ?_
    repeat' (first
      | with_reducible refine QX.next ?_ | with_reducible refine WC.seq ?_ | with_reducible refine WC.region ?_ | with_reducible refine WC.block ?_ | with_reducible refine QX.bnorm ?_ | with_reducible refine QX.bret ?_ | with_reducible refine QX.ret ?_ | with_reducible refine QX.exit ?_ | with_reducible refine QX.bsame ?_ | with_reducible refine QX.bother rfl ?_
      | with_reducible refine WO.nil ?_ | with_reducible refine WC.skip ?_ | with_reducible refine WC.ret ?_ | with_reducible refine WC.exit ?_ | ((with_reducible refine WC.id ?_); first | refine WC.condT rfl ?_ | refine WC.condF rfl ?_)
      | (refine WC.quietG hg ?_; clear hg) | ((with_reducible refine WQ.nilG ?_); intro w hg)
      | ((with_reducible refine WQ.cid ?_); first | refine WQ.xG ?_ | refine WQ.pure ?_)
      | ((with_reducible refine WQ.gid ?_); first | refine WQ.on rfl ?_ | refine WQ.offN rfl rfl ?_)
      | ((with_reducible refine WO.cid ?_); first
        | refine WO.x ?_ | (refine op_alloc hg ?_; clear hg; intro b w hg; refine WO.fr ?_) | (refine op_boxA hg ?_; clear hg; intro b w hg; refine WO.fr ?_) | (refine op_box1 hg ?_; clear hg; intro b w hg; refine WO.fr ?_)
        | (refine op_store hg ?_; clear hg; intro w hg; refine WO.fr ?_; try simp only [List.set_cons_succ, List.set_cons_zero] at hg)
        | (refine op_storeA hg ?_; clear hg; intro w hg; refine WO.fr ?_; try simp only [over, List.take_zero, List.take_succ_cons, List.drop_zero, List.drop_succ_cons, List.nil_append, List.cons_append, List.append_nil, List.length_cons, List.length_nil, Nat.zero_add, Nat.reduceAdd, splice, cellsL] at hg)
        | (refine op_pure hg ?_; clear hg; intro w hg; refine WO.fr ?_) | (refine op_pureB hg ?_; clear hg; intro w hg c hc; cases c <;> refine WO.fr ?_))
      | ((with_reducible refine WO.gid ?_); first | refine WO.on rfl ?_ | refine WO.offN rfl rfl ?_))
    exact ret2 rfl ⟨⟨0, by rw [decide_eq_false (p := i < (all.length : Int)) (by omega), Bool.and_false]; rfl⟩, hg.drop⟩
  obtain ⟨j, rfl⟩ : ∃ j : Nat, i = j := ⟨i.toNat, by omega⟩
  have hjm := Nat.mod_lt j hR.pos
  have hml := hR.len
  have p2 : ∀ {w Fs}, Goes w0 [] Fs w → Calls Try.prog 74 #[.pointer (some ⟨pr, 0, none⟩), .int .i64 (j : Nat)] w _ := fun g => rplace_cell j (g.cellOld0 h0) hR.pos
  have hb : w0.cell? ⟨g, j % n, none⟩ = some (.int .u8 ((bl[j % n]'(by omega)).toNat : Int)) := heap_cell h3 (bcells_get (List.getElem?_eq_getElem (by omega)))
  have c4 : ∀ {w Fs}, Goes w0 [] Fs w → w.cell? ⟨g, j % n, none⟩ = some (.int .u8 ((bl[j % n]'(by omega)).toNat : Int)) := fun g => g.cellOld0 hb
  refine enter Try.func67 rfl (by simp only [Try.ntmps67, List.length_cons, List.length_nil, Nat.reduceAdd, Nat.reduceSub, List.replicate_succ, List.replicate_zero, List.cons_append, List.nil_append]; exact rfl) ?_
  repeat' (first
    | with_reducible refine QX.next ?_ | with_reducible refine WC.seq ?_ | with_reducible refine WC.region ?_ | with_reducible refine WC.block ?_ | with_reducible refine QX.bnorm ?_ | with_reducible refine QX.bret ?_ | with_reducible refine QX.ret ?_ | with_reducible refine QX.exit ?_ | with_reducible refine QX.bsame ?_ | with_reducible refine QX.bother rfl ?_
    | with_reducible refine WO.nil ?_ | with_reducible refine WC.skip ?_ | with_reducible refine WC.ret ?_ | with_reducible refine WC.exit ?_ | ((with_reducible refine WC.id ?_); first | refine WC.condT rfl ?_ | refine WC.condF rfl ?_)
    | (refine WC.quietG hg ?_; clear hg) | ((with_reducible refine WQ.nilG ?_); intro w hg)
    | ((with_reducible refine WQ.cid ?_); first | refine WQ.xG ?_ | refine WQ.pure ?_)
    | ((with_reducible refine WQ.gid ?_); first | refine WQ.on rfl ?_ | refine WQ.offN rfl rfl ?_)
    | ((with_reducible refine WO.cid ?_); first
      | refine WO.x ?_ | (refine op_alloc hg ?_; clear hg; intro b w hg; refine WO.fr ?_) | (refine op_boxA hg ?_; clear hg; intro b w hg; refine WO.fr ?_) | (refine op_box1 hg ?_; clear hg; intro b w hg; refine WO.fr ?_)
      | (refine op_store hg ?_; clear hg; intro w hg; refine WO.fr ?_; try simp only [List.set_cons_succ, List.set_cons_zero] at hg)
      | (refine op_storeA hg ?_; clear hg; intro w hg; refine WO.fr ?_; try simp only [over, List.take_zero, List.take_succ_cons, List.drop_zero, List.drop_succ_cons, List.nil_append, List.cons_append, List.append_nil, List.length_cons, List.length_nil, Nat.zero_add, Nat.reduceAdd, splice, cellsL] at hg)
      | (refine op_pure hg ?_; clear hg; intro w hg; refine WO.fr ?_) | (refine op_pureB hg ?_; clear hg; intro w hg c hc; cases c <;> refine WO.fr ?_))
    | ((with_reducible refine WO.gid ?_); first | refine WO.on rfl ?_ | refine WO.offN rfl rfl ?_))
  exact ret2 rfl ⟨⟨_, by rw [decide_eq_true (p := (fl : Int) ≤ (j : Nat)) (by omega), decide_eq_true (p := ((j : Nat) : Int) < all.length) (by omega)]; rfl⟩, hg.drop⟩
end
end Go.Proofs.Ytdjepfpmoeecaaa
