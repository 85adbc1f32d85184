/- The ring: plain laws; as it lies; Floor, End, Len, Left, place, New, Raise, At. The ring: New, Raise, Put, Text, Copy. Go's container/heap over the cache's places: down, Push, Pop. -/
import Derived.Test.YtkdidefghbeabaaGreatM03
import Derived.Test.YtkdidefghbeabaaGreatM06
import Derived.Test.YtkdidefghbeabaaGreatM05
namespace Go.Proofs.YtkdidefghbeabaaGreat
open Go Go.RowKit
set_option maxRecDepth 10000
set_option linter.unusedSimpArgs false
set_option linter.unusedVariables false

structure RingOK (n : Nat) (bl : List UInt8) (fl : Nat) (all : List UInt8) : Prop where
  len : bl.length = n
  pos : 0 < n
  fle : fl ≤ all.length
  fit : all.length ≤ fl + n
  mem : ∀ i, fl ≤ i → i < all.length → bl[i % n]? = all[i]?

theorem RingOK.new {n : Nat} (h : 0 < n) : RingOK n (List.replicate n 0) 0 [] := ⟨by simp, h, by simp, by simp, fun i _ h => by simp at h⟩
theorem RingOK.raise {n fl fl' : Nat} {bl all : List UInt8} (H : RingOK n bl fl all) (h1 : fl ≤ fl') (h2 : fl' ≤ all.length) : RingOK n bl fl' all :=
  ⟨H.len, H.pos, h2, by have := H.fit; omega, fun i hi hl => H.mem i (by omega) hl⟩
theorem RingOK.put {n fl : Nat} {bl all : List UInt8} (H : RingOK n bl fl all) (s : List UInt8) (hs : all.length + s.length ≤ fl + n) (k : Nat) (hk : k = min s.length (n - all.length % n)) :
    RingOK n (bl.take (all.length % n) ++ s.take k ++ bl.drop (all.length % n + k)) fl (all ++ s.take k) := by
  have hp := Nat.mod_lt all.length H.pos
  have hd := Nat.div_add_mod all.length n
  have hl := H.len
  have hst : (s.take k).length = k := by simp; omega
  refine ⟨by simp; omega, H.pos, by have := H.fle; simp; omega, by simp; omega, fun i hi hlt => ?_⟩
  rw [List.length_append, hst] at hlt
  have hid := Nat.div_add_mod i n
  have him := Nat.mod_lt i H.pos
  generalize hq : all.length / n = q at hd
  generalize hqi : i / n = qi at hid
  by_cases hil : i < all.length
  · rw [List.getElem?_append_left hil, ← H.mem i hi hil]
    have hout : i % n < all.length % n ∨ all.length % n + k ≤ i % n := by
      rcases Nat.lt_trichotomy qi q with h | h | h
      · right
        have : n * qi + n ≤ n * q := by rw [← Nat.mul_succ]; exact Nat.mul_le_mul_left _ h
        omega
      · left
        subst h
        omega
      · exfalso
        have : n * q + n ≤ n * qi := by rw [← Nat.mul_succ]; exact Nat.mul_le_mul_left _ h
        omega
    rcases hout with h | h
    · rw [List.append_assoc, List.getElem?_append_left (by simp; omega), List.getElem?_take, if_pos h]
    · rw [List.getElem?_append_right (by simp; omega), List.getElem?_drop]
      congr 1
      simp
      omega
  · obtain ⟨j, rfl⟩ : ∃ j, i = all.length + j := ⟨i - all.length, by omega⟩
    have hr : (all.length + j) % n = all.length % n + j := by
      have : all.length + j = n * q + (all.length % n + j) := by omega
      rw [this, Nat.mul_add_mod]
      rw [Nat.mod_eq_of_lt (by omega)]
    have eR : (all ++ s.take k)[all.length + j]? = (s.take k)[j]? := by
      rw [List.getElem?_append_right (by omega)]
      congr 1
      omega
    have ht : (bl.take (all.length % n)).length = all.length % n := by simp; omega
    have eL : (bl.take (all.length % n) ++ s.take k ++ bl.drop (all.length % n + k))[all.length % n + j]? = (s.take k)[j]? := by
      rw [List.append_assoc, List.getElem?_append_right (by omega), List.getElem?_append_left (by omega)]
      congr 1
      omega
    rw [hr, eL, eR]

/-- The ring as it lies. -/
def RingF (pr n : Nat) (bl : List UInt8) (fl en : Nat) (f : Frag) : Prop := ∃ g, f = [(pr, .cells [.slice (some ⟨g, 0, none⟩) n n, .int .i64 (fl : Nat), .int .i64 (en : Nat)].toArray 139 (0, 0)), (g, .cells (bcells bl).toArray 5 (0, 0))]

section
variable {pr n fl en : Nat} {bl : List UInt8} {f : Frag} {w0 : World}
theorem rmade_cell {a : Option Addr} {c : Nat} (hc : w0.cell? ⟨pr, 0, none⟩ = some (.slice a n c)) (hn : 0 < n) : Calls Tryz.prog 104 #[.pointer (some ⟨pr, 0, none⟩)] w0 fun e w' => e = .returned (.bool true) ∧ Goes w0 [] [] w' := by
  have hg := Goes.refl w0
  have c1 : ∀ {w' Fs}, Goes w0 [] Fs w' → w'.cell? ⟨pr, 0, none⟩ = some (.slice a n c) := fun h => h.cellOld0 hc
  refine enter Tryz.func104 rfl (by simp only [Tryz.ntmps104, List.length_cons, List.length_nil, Nat.reduceAdd, Nat.reduceSub, List.replicate_succ, List.replicate_zero, List.cons_append, List.nil_append]; exact rfl) ?_
  repeat' (first | refine zN ?_ | (refine WC.quietG hg ?_; clear hg) | ((with_reducible refine WQ.nilG ?_); intro w hg) | (refine zB ?_; clear hg; intro b w hg; refine WO.fr ?_) | (refine zW ?_; clear hg; intro w hg; refine WO.fr ?_) | (refine op_pureB hg ?_; clear hg; intro w hg c hc; cases c <;> refine WO.fr ?_))
  exact ret1 rfl ⟨rfl, hg.drop⟩
/-- What is known of a ring in whatever world its blocks lie as they were. -/
theorem RingF.cells (hF : RingF pr n bl fl en f) {w : World} (h : ∀ p ∈ f, w.heap[p.1]? = some p.2) : ∃ g, w.cell? ⟨pr, 0, none⟩ = some (.slice (some ⟨g, 0, none⟩) n n) ∧ w.cell? ⟨pr, 1, none⟩ = some (.int .i64 fl) ∧ w.cell? ⟨pr, 2, none⟩ = some (.int .i64 en) ∧ w.heap[g]? = some (.cells (bcells bl).toArray 5 (0, 0)) := by
  obtain ⟨g, rfl⟩ := hF
  have h1 := h (pr, .cells [.slice (some ⟨g, 0, none⟩) n n, .int .i64 (fl : Nat), .int .i64 (en : Nat)].toArray 139 (0, 0)) (by simp)
  exact ⟨g, heap_cell h1 rfl, heap_cell h1 rfl, heap_cell h1 rfl, h (g, .cells (bcells bl).toArray 5 (0, 0)) (by simp)⟩
theorem rFloor_spec (hF : RingF pr n bl fl en f) (hO : ∀ p ∈ f, w0.heap[p.1]? = some p.2) (hn : 0 < n) : Calls Tryz.prog 131 #[.pointer (some ⟨pr, 0, none⟩)] w0 fun e w' => e = .returned (.int .i64 fl) ∧ Goes w0 [] [] w' := by
  obtain ⟨g, h0, h1, h2, h3⟩ := hF.cells hO
  have hg := Goes.refl w0
  have c1 : ∀ {w Fs}, Goes w0 [] Fs w → w.cell? ⟨pr, 1, none⟩ = some (.int .i64 fl) := fun g => g.cellOld0 h1
  have p1 : ∀ {w Fs}, Goes w0 [] Fs w → Calls Tryz.prog 104 #[.pointer (some ⟨pr, 0, none⟩)] w _ := fun g => rmade_cell (g.cellOld0 h0) hn
  refine enter Tryz.func131 rfl (by simp only [Tryz.ntmps131, List.length_cons, List.length_nil, Nat.reduceAdd, Nat.reduceSub, List.replicate_succ, List.replicate_zero, List.cons_append, List.nil_append]; exact rfl) ?_
  repeat' (first | refine zN ?_ | (refine WC.quietG hg ?_; clear hg) | ((with_reducible refine WQ.nilG ?_); intro w hg) | (refine zB ?_; clear hg; intro b w hg; refine WO.fr ?_) | (refine zW ?_; clear hg; intro w hg; refine WO.fr ?_) | (refine op_pureB hg ?_; clear hg; intro w hg c hc; cases c <;> refine WO.fr ?_))
  exact ret1 rfl ⟨rfl, hg.drop⟩
theorem rEnd_spec (hF : RingF pr n bl fl en f) (hO : ∀ p ∈ f, w0.heap[p.1]? = some p.2) (hn : 0 < n) : Calls Tryz.prog 142 #[.pointer (some ⟨pr, 0, none⟩)] w0 fun e w' => e = .returned (.int .i64 en) ∧ Goes w0 [] [] w' := by
  obtain ⟨g, h0, h1, h2, h3⟩ := hF.cells hO
  have hg := Goes.refl w0
  have c1 : ∀ {w Fs}, Goes w0 [] Fs w → w.cell? ⟨pr, 2, none⟩ = some (.int .i64 en) := fun g => g.cellOld0 h2
  have p1 : ∀ {w Fs}, Goes w0 [] Fs w → Calls Tryz.prog 104 #[.pointer (some ⟨pr, 0, none⟩)] w _ := fun g => rmade_cell (g.cellOld0 h0) hn
  refine enter Tryz.func142 rfl (by simp only [Tryz.ntmps142, List.length_cons, List.length_nil, Nat.reduceAdd, Nat.reduceSub, List.replicate_succ, List.replicate_zero, List.cons_append, List.nil_append]; exact rfl) ?_
  repeat' (first | refine zN ?_ | (refine WC.quietG hg ?_; clear hg) | ((with_reducible refine WQ.nilG ?_); intro w hg) | (refine zB ?_; clear hg; intro b w hg; refine WO.fr ?_) | (refine zW ?_; clear hg; intro w hg; refine WO.fr ?_) | (refine op_pureB hg ?_; clear hg; intro w hg c hc; cases c <;> refine WO.fr ?_))
  exact ret1 rfl ⟨rfl, hg.drop⟩
theorem heap_goes {w : World} {Fs : List Frag} (hO : ∀ p ∈ f, w0.heap[p.1]? = some p.2) (hg : Goes w0 [] Fs w) : ∀ p ∈ f, w.heap[p.1]? = some p.2 :=
  fun p hp => (hg.old p.1 (Array.getElem?_eq_some_iff.1 (hO p hp)).1 (by simp)).trans (hO p hp)
theorem rLen_spec (hF : RingF pr n bl fl en f) (hO : ∀ p ∈ f, w0.heap[p.1]? = some p.2) (hn : 0 < n) (he : en ≤ 1000000 ∧ fl ≤ 1000000) : Calls Tryz.prog 140 #[.pointer (some ⟨pr, 0, none⟩)] w0 fun e w' => e = .returned (.int .i64 ((en : Int) - fl)) ∧ Goes w0 [] [] w' := by
  have hg := Goes.refl w0
  have p1 : ∀ {w Fs}, Goes w0 [] Fs w → Calls Tryz.prog 142 #[.pointer (some ⟨pr, 0, none⟩)] w _ := fun g => rEnd_spec hF (heap_goes hO g) hn
  have p2 : ∀ {w Fs}, Goes w0 [] Fs w → Calls Tryz.prog 131 #[.pointer (some ⟨pr, 0, none⟩)] w _ := fun g => rFloor_spec hF (heap_goes hO g) hn
  refine enter Tryz.func140 rfl (by simp only [Tryz.ntmps140, List.length_cons, List.length_nil, Nat.reduceAdd, Nat.reduceSub, List.replicate_succ, List.replicate_zero, List.cons_append, List.nil_append]; exact rfl) ?_
  repeat' (first | refine zN ?_ | (refine WC.quietG hg ?_; clear hg) | ((with_reducible refine WQ.nilG ?_); intro w hg) | (refine zB ?_; clear hg; intro b w hg; refine WO.fr ?_) | (refine zW ?_; clear hg; intro w hg; refine WO.fr ?_) | (refine op_pureB hg ?_; clear hg; intro w hg c hc; cases c <;> refine WO.fr ?_))
  exact ret1 rfl ⟨rfl, hg.drop⟩
theorem rLeft_spec (hF : RingF pr n bl fl en f) (hO : ∀ p ∈ f, w0.heap[p.1]? = some p.2) (hn : 0 < n ∧ n ≤ 1000000) (he : en ≤ 1000000 ∧ fl ≤ 1000000) : Calls Tryz.prog 115 #[.pointer (some ⟨pr, 0, none⟩)] w0 fun e w' => e = .returned (.int .i64 ((n : Int) - ((en : Int) - fl))) ∧ Goes w0 [] [] w' := by
  obtain ⟨g, h0, h1, h2, h3⟩ := hF.cells hO
  have hg := Goes.refl w0
  have c1 : ∀ {w Fs}, Goes w0 [] Fs w → w.cell? ⟨pr, 0, none⟩ = some (.slice (some ⟨g, 0, none⟩) n n) := fun g => g.cellOld0 h0
  have p1 : ∀ {w Fs}, Goes w0 [] Fs w → Calls Tryz.prog 104 #[.pointer (some ⟨pr, 0, none⟩)] w _ := fun g => rmade_cell (g.cellOld0 h0) hn.1
  have p2 : ∀ {w Fs}, Goes w0 [] Fs w → Calls Tryz.prog 140 #[.pointer (some ⟨pr, 0, none⟩)] w _ := fun g => rLen_spec hF (heap_goes hO g) hn.1 he
  refine enter Tryz.func115 rfl (by simp only [Tryz.ntmps115, List.length_cons, List.length_nil, Nat.reduceAdd, Nat.reduceSub, List.replicate_succ, List.replicate_zero, List.cons_append, List.nil_append]; exact rfl) ?_
  repeat' (first | refine zN ?_ | (refine WC.quietG hg ?_; clear hg) | ((with_reducible refine WQ.nilG ?_); intro w hg) | (refine zB ?_; clear hg; intro b w hg; refine WO.fr ?_) | (refine zW ?_; clear hg; intro w hg; refine WO.fr ?_) | (refine op_pureB hg ?_; clear hg; intro w hg c hc; cases c <;> refine WO.fr ?_))
  exact ret1 rfl ⟨rfl, hg.drop⟩
theorem rplace_cell {a : Option Addr} {c : Nat} (i : Nat) (hc : w0.cell? ⟨pr, 0, none⟩ = some (.slice a n c)) (hn : 0 < n) : Calls Tryz.prog 116 #[.pointer (some ⟨pr, 0, none⟩), .int .i64 i] w0 fun e w' => e = .returned (.int .i64 (i % n : Nat)) ∧ Goes w0 [] [] w' := by
  have hg := Goes.refl w0
  have c1 : ∀ {w' Fs}, Goes w0 [] Fs w' → w'.cell? ⟨pr, 0, none⟩ = some (.slice a n c) := fun h => h.cellOld0 hc
  refine enter Tryz.func116 rfl (by simp only [Tryz.ntmps116, List.length_cons, List.length_nil, Nat.reduceAdd, Nat.reduceSub, List.replicate_succ, List.replicate_zero, List.cons_append, List.nil_append]; exact rfl) ?_
  repeat' (first | refine zN ?_ | (refine WC.quietG hg ?_; clear hg) | ((with_reducible refine WQ.nilG ?_); intro w hg) | (refine zB ?_; clear hg; intro b w hg; refine WO.fr ?_) | (refine zW ?_; clear hg; intro w hg; refine WO.fr ?_) | (refine op_pureB hg ?_; clear hg; intro w hg c hc; cases c <;> refine WO.fr ?_))
  exact ret1 rfl ⟨rfl, hg.drop⟩
theorem rAt_spec {all : List UInt8} (i : Int) (hF : RingF pr n bl fl all.length f) (hO : ∀ p ∈ f, w0.heap[p.1]? = some p.2) (hR : RingOK n bl fl all) (hn : n ≤ 1000000) : Calls Tryz.prog 96 #[.pointer (some ⟨pr, 0, none⟩), .int .i64 i] w0 fun e w' =>
    (∃ b : UInt8, e = .returned (.tuple #[.int .u8 (b.toNat : Int), .bool (decide ((fl : Int) ≤ i) && decide (i < all.length))])) ∧ Goes w0 [] [] w' := by
  obtain ⟨g, h0, h1, h2, h3⟩ := hF.cells hO
  have hg := Goes.refl w0
  have c1 : ∀ {w Fs}, Goes w0 [] Fs w → w.cell? ⟨pr, 0, none⟩ = some (.slice (some ⟨g, 0, none⟩) n n) := fun g => g.cellOld0 h0
  have c2 : ∀ {w Fs}, Goes w0 [] Fs w → w.cell? ⟨pr, 1, none⟩ = some (.int .i64 fl) := fun g => g.cellOld0 h1
  have c3 : ∀ {w Fs}, Goes w0 [] Fs w → w.cell? ⟨pr, 2, none⟩ = some (.int .i64 all.length) := fun g => g.cellOld0 h2
  have p1 : ∀ {w Fs}, Goes w0 [] Fs w → Calls Tryz.prog 104 #[.pointer (some ⟨pr, 0, none⟩)] w _ := fun g => rmade_cell (g.cellOld0 h0) hR.pos
  by_cases hlo : i < fl
  · refine enter Tryz.func96 rfl (by simp only [Tryz.ntmps96, List.length_cons, List.length_nil, Nat.reduceAdd, Nat.reduceSub, List.replicate_succ, List.replicate_zero, List.cons_append, List.nil_append]; exact rfl) ?_
    repeat' (first | refine zN ?_ | (refine WC.quietG hg ?_; clear hg) | ((with_reducible refine WQ.nilG ?_); intro w hg) | (refine zB ?_; clear hg; intro b w hg; refine WO.fr ?_) | (refine zW ?_; clear hg; intro w hg; refine WO.fr ?_) | (refine op_pureB hg ?_; clear hg; intro w hg c hc; cases c <;> refine WO.fr ?_))
    exact ret2 rfl ⟨⟨0, by rw [decide_eq_false (by omega)]; rfl⟩, hg.drop⟩
  by_cases hhi : (all.length : Int) ≤ i
  · refine enter Tryz.func96 rfl (by simp only [Tryz.ntmps96, List.length_cons, List.length_nil, Nat.reduceAdd, Nat.reduceSub, List.replicate_succ, List.replicate_zero, List.cons_append, List.nil_append]; exact rfl) ?_
    repeat' (first | refine zN ?_ | (refine WC.quietG hg ?_; clear hg) | ((with_reducible refine WQ.nilG ?_); intro w hg) | (refine zB ?_; clear hg; intro b w hg; refine WO.fr ?_) | (refine zW ?_; clear hg; intro w hg; refine WO.fr ?_) | (refine op_pureB hg ?_; clear hg; intro w hg c hc; cases c <;> refine WO.fr ?_))
    exact ret2 rfl ⟨⟨0, by rw [decide_eq_false (p := i < (all.length : Int)) (by omega), Bool.and_false]; rfl⟩, hg.drop⟩
  obtain ⟨j, rfl⟩ : ∃ j : Nat, i = j := ⟨i.toNat, by omega⟩
  have hjm := Nat.mod_lt j hR.pos
  have hml := hR.len
  have p2 : ∀ {w Fs}, Goes w0 [] Fs w → Calls Tryz.prog 116 #[.pointer (some ⟨pr, 0, none⟩), .int .i64 (j : Nat)] w _ := fun g => rplace_cell j (g.cellOld0 h0) hR.pos
  have hb : w0.cell? ⟨g, j % n, none⟩ = some (.int .u8 ((bl[j % n]'(by omega)).toNat : Int)) := heap_cell h3 (bcells_get (List.getElem?_eq_getElem (by omega)))
  have c4 : ∀ {w Fs}, Goes w0 [] Fs w → w.cell? ⟨g, j % n, none⟩ = some (.int .u8 ((bl[j % n]'(by omega)).toNat : Int)) := fun g => g.cellOld0 hb
  refine enter Tryz.func96 rfl (by simp only [Tryz.ntmps96, List.length_cons, List.length_nil, Nat.reduceAdd, Nat.reduceSub, List.replicate_succ, List.replicate_zero, List.cons_append, List.nil_append]; exact rfl) ?_
  repeat' (first | refine zN ?_ | (refine WC.quietG hg ?_; clear hg) | ((with_reducible refine WQ.nilG ?_); intro w hg) | (refine zB ?_; clear hg; intro b w hg; refine WO.fr ?_) | (refine zW ?_; clear hg; intro w hg; refine WO.fr ?_) | (refine op_pureB hg ?_; clear hg; intro w hg c hc; cases c <;> refine WO.fr ?_))
  exact ret2 rfl ⟨⟨_, by rw [decide_eq_true (p := (fl : Int) ≤ (j : Nat)) (by omega), decide_eq_true (p := ((j : Nat) : Int) < all.length) (by omega)]; rfl⟩, hg.drop⟩
end
end Go.Proofs.YtkdidefghbeabaaGreat
namespace Go.Proofs.YtkdidefghbeabaaGreat
open Go Go.RowKit
set_option maxRecDepth 10000
set_option linter.unusedSimpArgs false
set_option linter.unusedVariables false

theorem bcells_rep (n : Nat) : bcells (List.replicate n 0) = List.replicate n (.int .u8 0) := by simp [bcells]
theorem rNew_spec (w0 : World) (n : Nat) (h1 : 1 ≤ n) (h2 : n ≤ 65536) : Calls Tryz.prog 46 #[.int .i64 n] w0 fun e w' => ∃ pr f, e = .returned (.pointer (some ⟨pr, 0, none⟩)) ∧ RingF pr n (List.replicate n 0) 0 0 f ∧ Goes w0 [] [f] w' := by
  have hg := Goes.refl w0
  refine enter Tryz.func46 rfl (by simp only [Tryz.ntmps46, List.length_cons, List.length_nil, Nat.reduceAdd, Nat.reduceSub, List.replicate_succ, List.replicate_zero, List.cons_append, List.nil_append]; exact rfl) ?_
  repeat' (first | refine zN ?_ | (refine WC.quietG hg ?_; clear hg) | ((with_reducible refine WQ.nilG ?_); intro w hg) | (refine zB ?_; clear hg; intro b w hg; refine WO.fr ?_) | (refine zW ?_; clear hg; intro w hg; refine WO.fr ?_) | (refine op_pureB hg ?_; clear hg; intro w hg c hc; cases c <;> refine WO.fr ?_))
  rw [show min (max (n : Int) 1) 65536 = (n : Int) from by omega]
  refine op_make hg ?_
  clear hg
  intro g w hg
  refine WO.fr ?_
  repeat' (first | refine zN ?_ | (refine WC.quietG hg ?_; clear hg) | ((with_reducible refine WQ.nilG ?_); intro w hg) | (refine zB ?_; clear hg; intro b w hg; refine WO.fr ?_) | (refine zW ?_; clear hg; intro w hg; refine WO.fr ?_) | (refine op_pureB hg ?_; clear hg; intro w hg c hc; cases c <;> refine WO.fr ?_))
  refine ret1 rfl ⟨b, [(b, _), (g, _)], rfl, ⟨g, rfl⟩, ?_⟩
  rw [bcells_rep]
  exact hg.perm (by simp)

section
variable {pr n fl en : Nat} {bl : List UInt8} {f : Frag} {w0 : World}
set_option maxHeartbeats 1000000 in
theorem rRaise_spec (t : Int) (hF : RingF pr n bl fl en f) (hO : Owns w0 f) (hn : 0 < n) (hle : fl ≤ en) (he : en ≤ 1000000) : Calls Tryz.prog 68 #[.pointer (some ⟨pr, 0, none⟩), .int .i64 t] w0 fun e w' => ∃ f', e = .returned (.int .i64 (min (max t fl) en - fl)) ∧ RingF pr n bl (min (max t fl) en).toNat en f' ∧ Goes w0 (keys f) [f'] w' := by
  obtain ⟨g, rfl⟩ := hF
  have hg := hO.goes
  replace hg : Goes w0 _ [[(pr, .cells [.slice (some ⟨g, 0, none⟩) n n, .int .i64 (fl : Nat), .int .i64 (en : Nat)].toArray 139 (0, 0))], [(g, .cells (bcells bl).toArray 5 (0, 0))]] w0 := hg.perm (by simp)
  have p1 : ∀ {w}, Goes w0 (keys [(pr, .cells [.slice (some ⟨g, 0, none⟩) n n, .int .i64 (fl : Nat), .int .i64 (en : Nat)].toArray 139 (0, 0)), (g, .cells (bcells bl).toArray 5 (0, 0))]) [[(pr, .cells [.slice (some ⟨g, 0, none⟩) n n, .int .i64 (fl : Nat), .int .i64 (en : Nat)].toArray 139 (0, 0))], [(g, .cells (bcells bl).toArray 5 (0, 0))]] w → Calls Tryz.prog 104 #[.pointer (some ⟨pr, 0, none⟩)] w _ := fun h => rmade_cell (heap_cell (h.own (pr, .cells [.slice (some ⟨g, 0, none⟩) n n, .int .i64 (fl : Nat), .int .i64 (en : Nat)].toArray 139 (0, 0)) (by simp)) rfl) hn
  obtain ⟨v, hv⟩ : ∃ v : Nat, min (max t (fl : Int)) en = v := ⟨(min (max t (fl : Int)) en).toNat, by omega⟩
  refine enter Tryz.func68 rfl (by simp only [Tryz.ntmps68, List.length_cons, List.length_nil, Nat.reduceAdd, Nat.reduceSub, List.replicate_succ, List.replicate_zero, List.cons_append, List.nil_append]; exact rfl) ?_
  repeat' (first | refine zN ?_ | ((with_reducible refine WQ.nilG ?_); intro w hg) | (refine zB ?_; clear hg; intro b w hg; refine WO.fr ?_) | (refine zW ?_; clear hg; intro w hg; refine WO.fr ?_) | (refine op_pureB hg ?_; clear hg; intro w hg c hc; cases c <;> refine WO.fr ?_))
  have s1 : ∀ {w : World}, (w.heap[pr]? = some (.cells [.slice (some ⟨g, 0, none⟩) n n, .int .i64 (fl : Nat), .int .i64 (en : Nat)].toArray 139 (0, 0)) ∧ w.heap[g]? = some (.cells (bcells bl).toArray 5 (0, 0))) → w.cell? ⟨pr, 1, none⟩ = some (.int .i64 fl) := fun h => heap_cell h.1 rfl
  have s2 : ∀ {w : World}, (w.heap[pr]? = some (.cells [.slice (some ⟨g, 0, none⟩) n n, .int .i64 (fl : Nat), .int .i64 (en : Nat)].toArray 139 (0, 0)) ∧ w.heap[g]? = some (.cells (bcells bl).toArray 5 (0, 0))) → w.cell? ⟨pr, 2, none⟩ = some (.int .i64 en) := fun h => heap_cell h.1 rfl
  refine WC.drawn (fun w => w.heap[pr]? = some (.cells [.slice (some ⟨g, 0, none⟩) n n, .int .i64 (fl : Nat), .int .i64 (en : Nat)].toArray 139 (0, 0)) ∧ w.heap[g]? = some (.cells (bcells bl).toArray 5 (0, 0))) [14] hg ?_
  clear hg
  intro w hg
  have hS : (fun w => w.heap[pr]? = some (.cells [.slice (some ⟨g, 0, none⟩) n n, .int .i64 (fl : Nat), .int .i64 (en : Nat)].toArray 139 (0, 0)) ∧ w.heap[g]? = some (.cells (bcells bl).toArray 5 (0, 0))) w := ⟨hg.own (pr, .cells [.slice (some ⟨g, 0, none⟩) n n, .int .i64 (fl : Nat), .int .i64 (en : Nat)].toArray 139 (0, 0)) (by simp), hg.own (g, .cells (bcells bl).toArray 5 (0, 0)) (by simp)⟩
  refine WA.passM 0 hS ?_
  refine WA.passM 1 hS ?_
  refine WA.passM 2 hS ?_
  refine WA.passM 3 hS ?_
  refine WA.passM 4 hS ?_
  refine WA.passM 7 hS ?_
  refine WA.passM 8 hS ?_
  refine WA.passM 9 hS ?_
  refine WA.passM 5 hS ?_
  refine WA.passM 6 hS ?_
  refine WA.passM 10 hS ?_
  refine WA.passM 11 hS ?_
  refine WA.passM 12 hS ?_
  refine WA.passM 13 hS ?_
  refine WA.only 14 ?_
  refine op_store hg ?_
  clear hg hS
  intro w hg
  simp only [List.set_cons_succ, List.set_cons_zero] at hg
  rw [hv] at hg ⊢
  refine WO.fr ?_
  refine WO.nilL ?_
  refine WA.nil ?_
  repeat' (first | refine zN ?_ | (refine WC.quietG hg ?_; clear hg) | ((with_reducible refine WQ.nilG ?_); intro w hg) | (refine zB ?_; clear hg; intro b w hg; refine WO.fr ?_) | (refine zW ?_; clear hg; intro w hg; refine WO.fr ?_) | (refine op_pureB hg ?_; clear hg; intro w hg c hc; cases c <;> refine WO.fr ?_))
  refine ret1 rfl ⟨[(pr, _), (g, _)], rfl, ⟨g, rfl⟩, ?_⟩
  rw [Int.toNat_natCast]
  exact hg.perm (by simp)

set_option maxHeartbeats 2000000 in
theorem rPut_spec2 {all : List UInt8} (s : List UInt8) (hF : RingF pr n bl fl all.length f) (hO : Owns w0 f) (hR : RingOK n bl fl all) (hn : n ≤ 100000) (hal : all.length ≤ 100000) (hsl : s.length ≤ 1000000) :
    Calls Tryz.prog 84 #[.pointer (some ⟨pr, 0, none⟩), .string (str s)] w0 fun e w' => ∃ bl' f', e = .returned (.int .i64 (min s.length (n - (all.length - fl)) : Nat)) ∧
      RingF pr n bl' fl (all ++ s.take (min s.length (n - (all.length - fl)))).length f' ∧ RingOK n bl' fl (all ++ s.take (min s.length (n - (all.length - fl)))) ∧ Goes w0 (keys f) [f'] w' := by
  have hF0 := hF
  obtain ⟨g, rfl⟩ := hF
  have hg := hO.goes
  have hfle := hR.fle
  have hfit := hR.fit
  have hpos := hR.pos
  have p1 : ∀ {w}, Goes w0 (keys [(pr, .cells [.slice (some ⟨g, 0, none⟩) n n, .int .i64 (fl : Nat), .int .i64 (all.length : Nat)].toArray 139 (0, 0)), (g, .cells (bcells bl).toArray 5 (0, 0))]) [[(pr, .cells [.slice (some ⟨g, 0, none⟩) n n, .int .i64 (fl : Nat), .int .i64 (all.length : Nat)].toArray 139 (0, 0)), (g, .cells (bcells bl).toArray 5 (0, 0))]] w → Calls Tryz.prog 115 #[.pointer (some ⟨pr, 0, none⟩)] w _ := fun h => rLeft_spec hF0 (fun p hp => h.own p (by simpa using hp)) ⟨hpos, by omega⟩ (by omega)
  obtain ⟨m, hm⟩ : ∃ m : Nat, min s.length (n - (all.length - fl)) = m := ⟨_, rfl⟩
  rw [hm]
  have hss := str_size s
  refine enter Tryz.func84 rfl (by simp only [Tryz.ntmps84, List.length_cons, List.length_nil, Nat.reduceAdd, Nat.reduceSub, List.replicate_succ, List.replicate_zero, List.cons_append, List.nil_append]; exact rfl) ?_
  repeat' (first | refine zN ?_ | (refine WC.quietG hg ?_; clear hg) | ((with_reducible refine WQ.nilG ?_); intro w hg) | (refine zB ?_; clear hg; intro b w hg; refine WO.fr ?_) | (refine zW ?_; clear hg; intro w hg; refine WO.fr ?_) | (refine op_pureB hg ?_; clear hg; intro w hg c hc; cases c <;> refine WO.fr ?_))
  rw [hss, show min (s.length : Int) ((n : Int) - ((all.length : Int) - fl)) = (m : Int) from by omega]
  by_cases hm0 : m = 0
  · subst hm0
    repeat' (first | refine zN ?_ | (refine WC.quietG hg ?_; clear hg) | ((with_reducible refine WQ.nilG ?_); intro w hg) | (refine zB ?_; clear hg; intro b w hg; refine WO.fr ?_) | (refine zW ?_; clear hg; intro w hg; refine WO.fr ?_) | (refine op_pureB hg ?_; clear hg; intro w hg c hc; cases c <;> refine WO.fr ?_))
    exact ret1 rfl ⟨bl, _, rfl, by simpa using hF0, by simpa using hR, hg⟩
  repeat' (first | refine zN ?_ | (refine WC.quietG hg ?_; clear hg) | ((with_reducible refine WQ.nilG ?_); intro w hg) | (refine zB ?_; clear hg; intro b w hg; refine WO.fr ?_) | (refine zW ?_; clear hg; intro w hg; refine WO.fr ?_) | (refine op_pureB hg ?_; clear hg; intro w hg c hc; cases c <;> refine WO.fr ?_))
  refine op_strH ?_
  refine WO.fr ?_
  repeat' (first | refine zN ?_ | (refine WC.quietG hg ?_; clear hg) | ((with_reducible refine WQ.nilG ?_); intro w hg) | (refine zB ?_; clear hg; intro b w hg; refine WO.fr ?_) | (refine zW ?_; clear hg; intro w hg; refine WO.fr ?_) | (refine op_pureB hg ?_; clear hg; intro w hg c hc; cases c <;> refine WO.fr ?_))
  clear p1
  refine WC.loopS [1, 6, 17, 18, 19, 20, 21, 22, 23, 24, 25, 26, 27, 28, 29, 30, 31, 32, 33, 34, 35, 36, 37, 38, 39, 40, 41, 42, 43] (fun xs d w => ∃ (c : Nat) (bl' all' s' : List UInt8), d = [] ∧ (gt xs 2) = .int .i64 c ∧ (gt xs 0) = .string (str s') ∧ c ≤ 2 ∧ RingOK n bl' fl all' ∧ all' ++ s' = all ++ s.take m ∧ (c = 1 → s' = [] ∨ all'.length % n = 0) ∧ (c = 2 → s' = []) ∧ Goes w0 (keys [(pr, .cells [.slice (some ⟨g, 0, none⟩) n n, .int .i64 (fl : Nat), .int .i64 (all.length : Nat)].toArray 139 (0, 0)), (g, .cells (bcells bl).toArray 5 (0, 0))]) [[(pr, .cells [.slice (some ⟨g, 0, none⟩) n n, .int .i64 (fl : Nat), .int .i64 (all'.length : Nat)].toArray 139 (0, 0)), (g, .cells (bcells bl').toArray 5 (0, 0))]] w) (fun xs _ _ => 2 - (intOf (gt xs 2)).toNat) ?_ ?_
  · exact ⟨0, bl, all, s.take m, rfl, rfl, rfl, by omega, hR, rfl, by omega, by omega, hg⟩
  clear hg
  intro xs d w hlen hI K hK
  replace hlen := len_cons hlen
  obtain ⟨x1, xs, rfl, hlen⟩ := hlen
  replace hlen := len_cons hlen
  obtain ⟨x6, xs, rfl, hlen⟩ := hlen
  replace hlen := len_cons hlen
  obtain ⟨x17, xs, rfl, hlen⟩ := hlen
  replace hlen := len_cons hlen
  obtain ⟨x18, xs, rfl, hlen⟩ := hlen
  replace hlen := len_cons hlen
  obtain ⟨x19, xs, rfl, hlen⟩ := hlen
  replace hlen := len_cons hlen
  obtain ⟨x20, xs, rfl, hlen⟩ := hlen
  replace hlen := len_cons hlen
  obtain ⟨x21, xs, rfl, hlen⟩ := hlen
  replace hlen := len_cons hlen
  obtain ⟨x22, xs, rfl, hlen⟩ := hlen
  replace hlen := len_cons hlen
  obtain ⟨x23, xs, rfl, hlen⟩ := hlen
  replace hlen := len_cons hlen
  obtain ⟨x24, xs, rfl, hlen⟩ := hlen
  replace hlen := len_cons hlen
  obtain ⟨x25, xs, rfl, hlen⟩ := hlen
  replace hlen := len_cons hlen
  obtain ⟨x26, xs, rfl, hlen⟩ := hlen
  replace hlen := len_cons hlen
  obtain ⟨x27, xs, rfl, hlen⟩ := hlen
  replace hlen := len_cons hlen
  obtain ⟨x28, xs, rfl, hlen⟩ := hlen
  replace hlen := len_cons hlen
  obtain ⟨x29, xs, rfl, hlen⟩ := hlen
  replace hlen := len_cons hlen
  obtain ⟨x30, xs, rfl, hlen⟩ := hlen
  replace hlen := len_cons hlen
  obtain ⟨x31, xs, rfl, hlen⟩ := hlen
  replace hlen := len_cons hlen
  obtain ⟨x32, xs, rfl, hlen⟩ := hlen
  replace hlen := len_cons hlen
  obtain ⟨x33, xs, rfl, hlen⟩ := hlen
  replace hlen := len_cons hlen
  obtain ⟨x34, xs, rfl, hlen⟩ := hlen
  replace hlen := len_cons hlen
  obtain ⟨x35, xs, rfl, hlen⟩ := hlen
  replace hlen := len_cons hlen
  obtain ⟨x36, xs, rfl, hlen⟩ := hlen
  replace hlen := len_cons hlen
  obtain ⟨x37, xs, rfl, hlen⟩ := hlen
  replace hlen := len_cons hlen
  obtain ⟨x38, xs, rfl, hlen⟩ := hlen
  replace hlen := len_cons hlen
  obtain ⟨x39, xs, rfl, hlen⟩ := hlen
  replace hlen := len_cons hlen
  obtain ⟨x40, xs, rfl, hlen⟩ := hlen
  replace hlen := len_cons hlen
  obtain ⟨x41, xs, rfl, hlen⟩ := hlen
  replace hlen := len_cons hlen
  obtain ⟨x42, xs, rfl, hlen⟩ := hlen
  replace hlen := len_cons hlen
  obtain ⟨x43, xs, rfl, hlen⟩ := hlen
  replace hlen := len_nil hlen
  subst hlen
  refine WC.frame (by simp only [setAll, List.set_cons_succ, List.set_cons_zero]; exact rfl) ?_
  try simp only [gt] at hI
  obtain ⟨c, bl', all', s', rfl, rfl, rfl, hc, hR', heq, hc1, hc2, hg⟩ := hI
  have hlen := congrArg List.length heq
  simp only [List.length_append, List.length_take] at hlen
  by_cases hlt : c < 2
  rotate_left
  · obtain rfl : s' = [] := hc2 (by omega)
    rw [List.append_nil] at heq
    subst heq
    repeat' (first | refine zN ?_ | (refine WC.quietG hg ?_; clear hg) | ((with_reducible refine WQ.nilG ?_); intro w hg) | (refine zB ?_; clear hg; intro b w hg; refine WO.fr ?_) | (refine zW ?_; clear hg; intro w hg; refine WO.fr ?_) | (refine op_pureB hg ?_; clear hg; intro w hg c hc; cases c <;> refine WO.fr ?_))
    exact ret1 rfl ⟨bl', _, rfl, ⟨g, rfl⟩, hR', hg⟩
  have hpm := Nat.mod_lt all'.length hpos
  have hfl' := hR'.fle
  have hbl := hR'.len
  obtain ⟨k, hk⟩ : ∃ k, min s'.length (n - all'.length % n) = k := ⟨_, rfl⟩
  have hput := hR'.put s' (by omega) k hk.symm
  generalize hpe : all'.length % n = p at hpm hk hput hc1
  have hmv : moved (some ⟨g, 0, none⟩) p 1 n = some ⟨g, p, none⟩ := by
    unfold moved
    rw [if_neg (by omega)]
    simp [add_lit]
  have hlk : (all' ++ s'.take k).length = all'.length + k := by simp; omega
  repeat' (first | refine zN ?_ | ((with_reducible refine WQ.nilG ?_); intro w hg) | (refine zB ?_; clear hg; intro b w hg; refine WO.fr ?_) | (refine zW ?_; clear hg; intro w hg; refine WO.fr ?_) | (refine op_pureB hg ?_; clear hg; intro w hg c hc; cases c <;> refine WO.fr ?_))
  have s1 : ∀ {w : World}, (w.heap[pr]? = some (.cells [.slice (some ⟨g, 0, none⟩) n n, .int .i64 (fl : Nat), .int .i64 (all'.length : Nat)].toArray 139 (0, 0))) → w.cell? ⟨pr, 0, none⟩ = some (.slice (some ⟨g, 0, none⟩) n n) := fun h => heap_cell h rfl
  have s2 : ∀ {w : World}, (w.heap[pr]? = some (.cells [.slice (some ⟨g, 0, none⟩) n n, .int .i64 (fl : Nat), .int .i64 (all'.length : Nat)].toArray 139 (0, 0))) → w.cell? ⟨pr, 2, none⟩ = some (.int .i64 all'.length) := fun h => heap_cell h rfl
  refine WC.drawn (fun w => w.heap[pr]? = some (.cells [.slice (some ⟨g, 0, none⟩) n n, .int .i64 (fl : Nat), .int .i64 (all'.length : Nat)].toArray 139 (0, 0))) [12, 13] hg ?_
  clear hg
  intro w hg
  have hS : (fun w => w.heap[pr]? = some (.cells [.slice (some ⟨g, 0, none⟩) n n, .int .i64 (fl : Nat), .int .i64 (all'.length : Nat)].toArray 139 (0, 0))) w := hg.own (pr, .cells [.slice (some ⟨g, 0, none⟩) n n, .int .i64 (fl : Nat), .int .i64 (all'.length : Nat)].toArray 139 (0, 0)) (by simp)
  refine WA.passM 0 hS ?_
  refine WA.passM 1 hS ?_
  refine WA.passM 2 hS ?_
  refine WA.passM 4 hS ?_
  refine WA.passM 5 hS ?_
  refine WA.passM 6 hS ?_
  refine WA.passM 7 hS ?_
  refine WA.passM 11 hS ?_
  refine WA.passM 3 hS ?_
  refine WA.passM 8 hS ?_
  refine WA.only 9 ?_
  refine op_pure hg ?_ (hc := rplace_cell all'.length (by first | with_reducible assumption | ((with_reducible apply CellAt.cell (hg := hg)); (repeat (first | ((with_reducible apply CellAt.here); (first | exact rfl | with_reducible assumption)) | with_reducible apply CellAt.more | with_reducible apply CellAt.next)); done) | ((with_reducible apply hg.cellOld0); with_reducible assumption) | with_reducible exact c1 hg | with_reducible exact c2 hg | with_reducible exact c3 hg | with_reducible exact c4 hg | with_reducible exact c5 hg | with_reducible exact c6 hg | with_reducible exact c7 hg | with_reducible exact c8 hg | with_reducible exact c9 hg | with_reducible exact s1 hs | with_reducible exact s2 hs | with_reducible exact s3 hs | with_reducible exact s4 hs | with_reducible exact s5 hs | with_reducible exact s6 hs | with_reducible exact s7 hs | with_reducible exact s8 hs | with_reducible exact s9 hs) hpos)
  clear hg hS
  intro w hg
  rw [hpe]
  refine WO.fr ?_
  have hS : (fun w => w.heap[pr]? = some (.cells [.slice (some ⟨g, 0, none⟩) n n, .int .i64 (fl : Nat), .int .i64 (all'.length : Nat)].toArray 139 (0, 0))) w := hg.own (pr, .cells [.slice (some ⟨g, 0, none⟩) n n, .int .i64 (fl : Nat), .int .i64 (all'.length : Nat)].toArray 139 (0, 0)) (by simp)
  refine WO.nilA hS ?_
  refine WA.passM 10 hS ?_
  refine WA.only 12 ?_
  rw [hmv]
  refine op_copyStr (o := p) (dl := n - p) hg ?_ (hfit := by rw [bcells_len]; omega)
  clear hg hS s1 s2
  intro w hg
  rw [hk] at hg ⊢
  rw [show (bcells bl').take p ++ bcells (s'.take k) ++ (bcells bl').drop (p + k) = bcells (bl'.take p ++ s'.take k ++ bl'.drop (p + k)) from by simp [bcells, List.map_take, List.map_drop]] at hg
  refine WO.fr ?_
  refine WO.nilL ?_
  refine WA.passL 13 ?_
  refine WA.nil ?_
  repeat' (first | refine zN ?_ | (refine WC.quietG hg ?_; clear hg) | ((with_reducible refine WQ.nilG ?_); intro w hg) | (refine zB ?_; clear hg; intro b w hg; refine WO.fr ?_) | (refine zW ?_; clear hg; intro w hg; refine WO.fr ?_) | (refine op_pureB hg ?_; clear hg; intro w hg c hc; cases c <;> refine WO.fr ?_))
  refine op_strL ?_
  refine WO.fr ?_
  repeat' (first | refine zN ?_ | (refine WC.quietG hg ?_; clear hg) | ((with_reducible refine WQ.nilG ?_); intro w hg) | (refine zB ?_; clear hg; intro b w hg; refine WO.fr ?_) | (refine zW ?_; clear hg; intro w hg; refine WO.fr ?_) | (refine op_pureB hg ?_; clear hg; intro w hg c hc; cases c <;> refine WO.fr ?_))
  rw [show (all'.length : Int) + (k : Int) = ((all' ++ s'.take k).length : Nat) from by omega] at hg
  with_reducible refine QX.norm ?_
  refine hK _ _ _ ?_ ?_ ?_
  · simp only [setAll, List.map_cons, List.map_nil, gt, List.set_cons_succ, List.set_cons_zero]
  all_goals try simp only [List.map_cons, List.map_nil, gt, intOf]
  · refine ⟨c + 1, bl'.take p ++ s'.take k ++ bl'.drop (p + k), all' ++ s'.take k, s'.drop k, trivial, rfl, rfl, by omega, hput, ?_, fun h => ?_, fun h => ?_, hg⟩
    · rw [List.append_assoc, List.take_append_drop]; exact heq
    · rcases Nat.lt_or_ge k s'.length with hkl | hkl
      · right
        have hd := Nat.div_add_mod all'.length n
        rw [hlk, show all'.length + k = n * (all'.length / n + 1) from by rw [Nat.mul_add]; omega]
        exact Nat.mul_mod_right _ _
      · left
        exact List.drop_eq_nil_of_le hkl
    · rcases hc1 (by omega) with h0 | h0
      · rw [h0]; simp
      · exact List.drop_eq_nil_of_le (by omega)
  · omega
end
end Go.Proofs.YtkdidefghbeabaaGreat
namespace Go.Proofs.YtkdidefghbeabaaGreat
open Go Go.RowKit
set_option maxRecDepth 10000
set_option linter.unusedSimpArgs false
set_option linter.unusedVariables false

set_option maxHeartbeats 4000000 in
theorem down_spec {ph n : Nat} {h : List Int} {f : Frag} {w0 : World} (hO : Owns w0 f) (hF : HeapF ph h f) (hU : HpDn h n 0) (hnl : n ≤ h.length) (hn : h.length ≤ 1000000) :
    Calls Tryz.prog 133 #[.iface 141 (.pointer (some ⟨ph, 0, none⟩)), .int .i64 0, .int .i64 n] w0 fun e w' => ∃ h' f', (∃ v, e = .returned v) ∧ HeapF ph h' f' ∧ h'.Perm h ∧ (∀ k, n ≤ k → h'.getD k 0 = h.getD k 0) ∧ Hp h' n ∧ Goes w0 (keys f) [f'] w' := by
  have hg := hO.goes
  refine enter Tryz.func133 rfl (by simp only [Tryz.ntmps133, List.length_cons, List.length_nil, Nat.reduceAdd, Nat.reduceSub, List.replicate_succ, List.replicate_zero, List.cons_append, List.nil_append]; exact rfl) ?_
  repeat' (first | refine zN ?_ | (refine WC.quietG hg ?_; clear hg) | ((with_reducible refine WQ.nilG ?_); intro w hg) | (refine zB ?_; clear hg; intro b w hg; refine WO.fr ?_) | (refine zW ?_; clear hg; intro w hg; refine WO.fr ?_) | (refine op_pureB hg ?_; clear hg; intro w hg c hc; cases c <;> refine WO.fr ?_))
  refine WC.loopS [7, 8, 9, 10, 12, 13, 14, 15, 16, 17, 18, 19, 20, 21, 22, 23, 24, 25, 26, 27, 28, 29, 30, 31, 32, 33, 34, 35, 36, 37, 38, 39, 40, 41, 42, 43, 44] (fun xs d w => ∃ (i : Nat) (h' : List Int) (f' : Frag), d = [] ∧ (gt xs 0) = .int .i64 i ∧ i ≤ n ∧ HeapF ph h' f' ∧ h'.Perm h ∧ (∀ k, n ≤ k → h'.getD k 0 = h.getD k 0) ∧ HpDn h' n i ∧ Goes w0 (keys f) [f'] w) (fun xs _ _ => n - (intOf (gt xs 0)).toNat) ?_ ?_
  · exact ⟨0, h, f, rfl, rfl, Nat.zero_le _, hF, List.Perm.refl _, fun _ _ => rfl, hU, hg⟩
  clear hg hF hU
  intro xs d w hlen hI K hK
  replace hlen := len_cons hlen
  obtain ⟨x7, xs, rfl, hlen⟩ := hlen
  replace hlen := len_cons hlen
  obtain ⟨x8, xs, rfl, hlen⟩ := hlen
  replace hlen := len_cons hlen
  obtain ⟨x9, xs, rfl, hlen⟩ := hlen
  replace hlen := len_cons hlen
  obtain ⟨x10, xs, rfl, hlen⟩ := hlen
  replace hlen := len_cons hlen
  obtain ⟨x12, xs, rfl, hlen⟩ := hlen
  replace hlen := len_cons hlen
  obtain ⟨x13, xs, rfl, hlen⟩ := hlen
  replace hlen := len_cons hlen
  obtain ⟨x14, xs, rfl, hlen⟩ := hlen
  replace hlen := len_cons hlen
  obtain ⟨x15, xs, rfl, hlen⟩ := hlen
  replace hlen := len_cons hlen
  obtain ⟨x16, xs, rfl, hlen⟩ := hlen
  replace hlen := len_cons hlen
  obtain ⟨x17, xs, rfl, hlen⟩ := hlen
  replace hlen := len_cons hlen
  obtain ⟨x18, xs, rfl, hlen⟩ := hlen
  replace hlen := len_cons hlen
  obtain ⟨x19, xs, rfl, hlen⟩ := hlen
  replace hlen := len_cons hlen
  obtain ⟨x20, xs, rfl, hlen⟩ := hlen
  replace hlen := len_cons hlen
  obtain ⟨x21, xs, rfl, hlen⟩ := hlen
  replace hlen := len_cons hlen
  obtain ⟨x22, xs, rfl, hlen⟩ := hlen
  replace hlen := len_cons hlen
  obtain ⟨x23, xs, rfl, hlen⟩ := hlen
  replace hlen := len_cons hlen
  obtain ⟨x24, xs, rfl, hlen⟩ := hlen
  replace hlen := len_cons hlen
  obtain ⟨x25, xs, rfl, hlen⟩ := hlen
  replace hlen := len_cons hlen
  obtain ⟨x26, xs, rfl, hlen⟩ := hlen
  replace hlen := len_cons hlen
  obtain ⟨x27, xs, rfl, hlen⟩ := hlen
  replace hlen := len_cons hlen
  obtain ⟨x28, xs, rfl, hlen⟩ := hlen
  replace hlen := len_cons hlen
  obtain ⟨x29, xs, rfl, hlen⟩ := hlen
  replace hlen := len_cons hlen
  obtain ⟨x30, xs, rfl, hlen⟩ := hlen
  replace hlen := len_cons hlen
  obtain ⟨x31, xs, rfl, hlen⟩ := hlen
  replace hlen := len_cons hlen
  obtain ⟨x32, xs, rfl, hlen⟩ := hlen
  replace hlen := len_cons hlen
  obtain ⟨x33, xs, rfl, hlen⟩ := hlen
  replace hlen := len_cons hlen
  obtain ⟨x34, xs, rfl, hlen⟩ := hlen
  replace hlen := len_cons hlen
  obtain ⟨x35, xs, rfl, hlen⟩ := hlen
  replace hlen := len_cons hlen
  obtain ⟨x36, xs, rfl, hlen⟩ := hlen
  replace hlen := len_cons hlen
  obtain ⟨x37, xs, rfl, hlen⟩ := hlen
  replace hlen := len_cons hlen
  obtain ⟨x38, xs, rfl, hlen⟩ := hlen
  replace hlen := len_cons hlen
  obtain ⟨x39, xs, rfl, hlen⟩ := hlen
  replace hlen := len_cons hlen
  obtain ⟨x40, xs, rfl, hlen⟩ := hlen
  replace hlen := len_cons hlen
  obtain ⟨x41, xs, rfl, hlen⟩ := hlen
  replace hlen := len_cons hlen
  obtain ⟨x42, xs, rfl, hlen⟩ := hlen
  replace hlen := len_cons hlen
  obtain ⟨x43, xs, rfl, hlen⟩ := hlen
  replace hlen := len_cons hlen
  obtain ⟨x44, xs, rfl, hlen⟩ := hlen
  replace hlen := len_nil hlen
  subst hlen
  refine WC.frame (by simp only [setAll, List.set_cons_succ, List.set_cons_zero]; exact rfl) ?_
  try simp only [gt] at hI
  obtain ⟨i, h', f', rfl, rfl, hi, hF, hp, hk, hU, hg⟩ := hI
  have hpl := hp.length_eq
  obtain ⟨ah, ch, fh, rfl, hW⟩ := hF
  replace hg := hg.perm (Fs' := [[(ph, .cells [.slice ah h'.length ch].toArray 142 (0, 0))], fh]) (by simp)
  by_cases h1 : 2 * i + 1 < n
  rotate_left
  · repeat' (first | refine zN ?_ | (refine WC.quietG hg ?_; clear hg) | ((with_reducible refine WQ.nilG ?_); intro w hg) | (refine zB ?_; clear hg; intro b w hg; refine WO.fr ?_) | (refine zW ?_; clear hg; intro w hg; refine WO.fr ?_) | (refine op_pureB hg ?_; clear hg; intro w hg c hc; cases c <;> refine WO.fr ?_) | ((with_reducible refine WO.cid ?_); refine WO.xS ?_; intro c hc; cases c <;> (refine WO.fr ?_; try simp only [decide_eq_true_eq, decide_eq_false_iff_not, beq_iff_eq, beq_eq_false_iff_ne, bne_iff_ne, bne_eq_false_iff_eq, ne_eq] at hc)))
    all_goals exact ret1 rfl ⟨h', _, ⟨_, rfl⟩, ⟨ah, ch, fh, rfl, hW⟩, hp, hk, hU.stop (fun k h0 hkn hpar => by omega), hg.perm (by simp)⟩
  obtain ⟨j1, hj1⟩ : ∃ j1 : Nat, (2 : Int) * (i : Int) + 1 = j1 := ⟨2 * i + 1, by omega⟩
  obtain ⟨j2, hj2⟩ : ∃ j2 : Nat, (j1 : Int) + 1 = j2 := ⟨j1 + 1, by omega⟩
  repeat' (first | refine zN ?_ | (refine WC.quietG hg ?_; clear hg) | ((with_reducible refine WQ.nilG ?_); intro w hg) | (refine zB ?_; clear hg; intro b w hg; refine WO.fr ?_) | (refine zW ?_; clear hg; intro w hg; refine WO.fr ?_) | (refine op_pureB hg ?_; clear hg; intro w hg c hc; cases c <;> refine WO.fr ?_))
  rw [hj1, hj2]
  by_cases h2 : j2 < n
  · repeat' (first | refine zN ?_ | (refine WC.quietG hg ?_; clear hg) | ((with_reducible refine WQ.nilG ?_); intro w hg) | (refine zB ?_; clear hg; intro b w hg; refine WO.fr ?_) | (refine zW ?_; clear hg; intro w hg; refine WO.fr ?_) | (refine op_pureB hg ?_; clear hg; intro w hg c hc; cases c <;> refine WO.fr ?_))
    refine op_invokeV (heap_cell (hg.own (ph, .cells [.slice ah h'.length ch].toArray 142 (0, 0)) (by simp)) rfl) (Less_spec _ ah ch h' j2 j1 (by omega) (by omega) (ints_own hW (hg.front 1) (by omega))) ?_
    rintro _ w2 ⟨rfl, hg2⟩
    replace hg := hg.call00 hg2
    clear hg2
    refine ⟨_, rfl, ?_⟩
    refine WO.fr ?_
    by_cases hl12 : h'.getD j2 0 < h'.getD j1 0
    · rw [decide_eq_true hl12]
      have hmin : ∀ k, 0 < k → k < n → (k - 1) / 2 = i → h'.getD j2 0 ≤ h'.getD k 0 := fun k h0 hkn hpar => by
        have : k = j1 ∨ k = j2 := by omega
        rcases this with rfl | rfl <;> omega
      repeat' (first | refine zN ?_ | (refine WC.quietG hg ?_; clear hg) | ((with_reducible refine WQ.nilG ?_); intro w hg) | (refine zB ?_; clear hg; intro b w hg; refine WO.fr ?_) | (refine zW ?_; clear hg; intro w hg; refine WO.fr ?_) | (refine op_pureB hg ?_; clear hg; intro w hg c hc; cases c <;> refine WO.fr ?_))
      refine op_invokeV (heap_cell (hg.own (ph, .cells [.slice ah h'.length ch].toArray 142 (0, 0)) (by simp)) rfl) (Less_spec _ ah ch h' j2 i (by omega) (by omega) (ints_own hW (hg.front 1) (by omega))) ?_
      rintro _ w2 ⟨rfl, hg2⟩
      replace hg := hg.call00 hg2
      clear hg2
      refine ⟨_, rfl, ?_⟩
      refine WO.fr ?_
      by_cases hlt : h'.getD j2 0 < h'.getD i 0
      · rw [decide_eq_true hlt]
        repeat' (first | refine zN ?_ | (refine WC.quietG hg ?_; clear hg) | ((with_reducible refine WQ.nilG ?_); intro w hg) | (refine zB ?_; clear hg; intro b w hg; refine WO.fr ?_) | (refine zW ?_; clear hg; intro w hg; refine WO.fr ?_) | (refine op_pureB hg ?_; clear hg; intro w hg c hc; cases c <;> refine WO.fr ?_))
        refine op_invokeV (heap_cell (hg.own (ph, .cells [.slice ah h'.length ch].toArray 142 (0, 0)) (by simp)) rfl) (Swap_spec i j2 (by omega) (by omega) (hg.front 1).owns1 hW) ?_
        rintro _ w2 ⟨f2, ⟨v, rfl⟩, hW2, hg2⟩
        replace hg := (hg.front 1).callF hg2
        clear hg2
        refine ⟨_, rfl, ?_⟩
        refine WO.fr ?_
        have hst := hU.step (j := j2) (by omega) (by omega) (by omega) (by omega) hmin hlt
        have hl2 := swp_len h' i j2
        have hp2 := swp_perm h' i j2 (by omega) (by omega)
        repeat' (first | refine zN ?_ | (refine WC.quietG hg ?_; clear hg) | ((with_reducible refine WQ.nilG ?_); intro w hg) | (refine zB ?_; clear hg; intro b w hg; refine WO.fr ?_) | (refine zW ?_; clear hg; intro w hg; refine WO.fr ?_) | (refine op_pureB hg ?_; clear hg; intro w hg c hc; cases c <;> refine WO.fr ?_))
        with_reducible refine QX.norm ?_
        refine hK _ _ _ ?_ ?_ ?_
        · simp only [setAll, List.map_cons, List.map_nil, gt, List.set_cons_succ, List.set_cons_zero]
        all_goals try simp only [List.map_cons, List.map_nil, gt, intOf]
        · refine ⟨j2, swp h' i j2, _, trivial, rfl, by omega, ⟨ah, ch, f2, rfl, hW2⟩, hp2.trans hp, fun k hkn => ?_, hst, ?_⟩
          · rw [swp_getD _ _ _ _ (by omega) (by omega), if_neg (by omega), if_neg (by omega)]
            exact hk k hkn
          · rw [hl2]
            exact hg.swap.perm (by simp)
        · omega
      · rw [decide_eq_false hlt]
        have hs : ∀ k, 0 < k → k < n → (k - 1) / 2 = i → h'.getD i 0 ≤ h'.getD k 0 := fun k h0 hkn hpar => by
          have := hmin k h0 hkn hpar
          omega
        repeat' (first | refine zN ?_ | (refine WC.quietG hg ?_; clear hg) | ((with_reducible refine WQ.nilG ?_); intro w hg) | (refine zB ?_; clear hg; intro b w hg; refine WO.fr ?_) | (refine zW ?_; clear hg; intro w hg; refine WO.fr ?_) | (refine op_pureB hg ?_; clear hg; intro w hg c hc; cases c <;> refine WO.fr ?_) | ((with_reducible refine WO.cid ?_); refine WO.xS ?_; intro c hc; cases c <;> (refine WO.fr ?_; try simp only [decide_eq_true_eq, decide_eq_false_iff_not, beq_iff_eq, beq_eq_false_iff_ne, bne_iff_ne, bne_eq_false_iff_eq, ne_eq] at hc)))
        all_goals exact ret1 rfl ⟨h', _, ⟨_, rfl⟩, ⟨ah, ch, fh, rfl, hW⟩, hp, hk, hU.stop hs, hg.perm (by simp)⟩
    · rw [decide_eq_false hl12]
      have hmin : ∀ k, 0 < k → k < n → (k - 1) / 2 = i → h'.getD j1 0 ≤ h'.getD k 0 := fun k h0 hkn hpar => by
        have : k = j1 ∨ k = j2 := by omega
        rcases this with rfl | rfl <;> omega
      repeat' (first | refine zN ?_ | (refine WC.quietG hg ?_; clear hg) | ((with_reducible refine WQ.nilG ?_); intro w hg) | (refine zB ?_; clear hg; intro b w hg; refine WO.fr ?_) | (refine zW ?_; clear hg; intro w hg; refine WO.fr ?_) | (refine op_pureB hg ?_; clear hg; intro w hg c hc; cases c <;> refine WO.fr ?_))
      refine op_invokeV (heap_cell (hg.own (ph, .cells [.slice ah h'.length ch].toArray 142 (0, 0)) (by simp)) rfl) (Less_spec _ ah ch h' j1 i (by omega) (by omega) (ints_own hW (hg.front 1) (by omega))) ?_
      rintro _ w2 ⟨rfl, hg2⟩
      replace hg := hg.call00 hg2
      clear hg2
      refine ⟨_, rfl, ?_⟩
      refine WO.fr ?_
      by_cases hlt : h'.getD j1 0 < h'.getD i 0
      · rw [decide_eq_true hlt]
        repeat' (first | refine zN ?_ | (refine WC.quietG hg ?_; clear hg) | ((with_reducible refine WQ.nilG ?_); intro w hg) | (refine zB ?_; clear hg; intro b w hg; refine WO.fr ?_) | (refine zW ?_; clear hg; intro w hg; refine WO.fr ?_) | (refine op_pureB hg ?_; clear hg; intro w hg c hc; cases c <;> refine WO.fr ?_))
        refine op_invokeV (heap_cell (hg.own (ph, .cells [.slice ah h'.length ch].toArray 142 (0, 0)) (by simp)) rfl) (Swap_spec i j1 (by omega) (by omega) (hg.front 1).owns1 hW) ?_
        rintro _ w2 ⟨f2, ⟨v, rfl⟩, hW2, hg2⟩
        replace hg := (hg.front 1).callF hg2
        clear hg2
        refine ⟨_, rfl, ?_⟩
        refine WO.fr ?_
        have hst := hU.step (j := j1) (by omega) (by omega) (by omega) (by omega) hmin hlt
        have hl2 := swp_len h' i j1
        have hp2 := swp_perm h' i j1 (by omega) (by omega)
        repeat' (first | refine zN ?_ | (refine WC.quietG hg ?_; clear hg) | ((with_reducible refine WQ.nilG ?_); intro w hg) | (refine zB ?_; clear hg; intro b w hg; refine WO.fr ?_) | (refine zW ?_; clear hg; intro w hg; refine WO.fr ?_) | (refine op_pureB hg ?_; clear hg; intro w hg c hc; cases c <;> refine WO.fr ?_))
        with_reducible refine QX.norm ?_
        refine hK _ _ _ ?_ ?_ ?_
        · simp only [setAll, List.map_cons, List.map_nil, gt, List.set_cons_succ, List.set_cons_zero]
        all_goals try simp only [List.map_cons, List.map_nil, gt, intOf]
        · refine ⟨j1, swp h' i j1, _, trivial, rfl, by omega, ⟨ah, ch, f2, rfl, hW2⟩, hp2.trans hp, fun k hkn => ?_, hst, ?_⟩
          · rw [swp_getD _ _ _ _ (by omega) (by omega), if_neg (by omega), if_neg (by omega)]
            exact hk k hkn
          · rw [hl2]
            exact hg.swap.perm (by simp)
        · omega
      · rw [decide_eq_false hlt]
        have hs : ∀ k, 0 < k → k < n → (k - 1) / 2 = i → h'.getD i 0 ≤ h'.getD k 0 := fun k h0 hkn hpar => by
          have := hmin k h0 hkn hpar
          omega
        repeat' (first | refine zN ?_ | (refine WC.quietG hg ?_; clear hg) | ((with_reducible refine WQ.nilG ?_); intro w hg) | (refine zB ?_; clear hg; intro b w hg; refine WO.fr ?_) | (refine zW ?_; clear hg; intro w hg; refine WO.fr ?_) | (refine op_pureB hg ?_; clear hg; intro w hg c hc; cases c <;> refine WO.fr ?_) | ((with_reducible refine WO.cid ?_); refine WO.xS ?_; intro c hc; cases c <;> (refine WO.fr ?_; try simp only [decide_eq_true_eq, decide_eq_false_iff_not, beq_iff_eq, beq_eq_false_iff_ne, bne_iff_ne, bne_eq_false_iff_eq, ne_eq] at hc)))
        all_goals exact ret1 rfl ⟨h', _, ⟨_, rfl⟩, ⟨ah, ch, fh, rfl, hW⟩, hp, hk, hU.stop hs, hg.perm (by simp)⟩
  · have hmin : ∀ k, 0 < k → k < n → (k - 1) / 2 = i → h'.getD j1 0 ≤ h'.getD k 0 := fun k h0 hkn hpar => by
      have : k = j1 := by omega
      rw [this]
      exact Int.le_refl _
    repeat' (first | refine zN ?_ | (refine WC.quietG hg ?_; clear hg) | ((with_reducible refine WQ.nilG ?_); intro w hg) | (refine zB ?_; clear hg; intro b w hg; refine WO.fr ?_) | (refine zW ?_; clear hg; intro w hg; refine WO.fr ?_) | (refine op_pureB hg ?_; clear hg; intro w hg c hc; cases c <;> refine WO.fr ?_))
    refine op_invokeV (heap_cell (hg.own (ph, .cells [.slice ah h'.length ch].toArray 142 (0, 0)) (by simp)) rfl) (Less_spec _ ah ch h' j1 i (by omega) (by omega) (ints_own hW (hg.front 1) (by omega))) ?_
    rintro _ w2 ⟨rfl, hg2⟩
    replace hg := hg.call00 hg2
    clear hg2
    refine ⟨_, rfl, ?_⟩
    refine WO.fr ?_
    by_cases hlt : h'.getD j1 0 < h'.getD i 0
    · rw [decide_eq_true hlt]
      repeat' (first | refine zN ?_ | (refine WC.quietG hg ?_; clear hg) | ((with_reducible refine WQ.nilG ?_); intro w hg) | (refine zB ?_; clear hg; intro b w hg; refine WO.fr ?_) | (refine zW ?_; clear hg; intro w hg; refine WO.fr ?_) | (refine op_pureB hg ?_; clear hg; intro w hg c hc; cases c <;> refine WO.fr ?_))
      refine op_invokeV (heap_cell (hg.own (ph, .cells [.slice ah h'.length ch].toArray 142 (0, 0)) (by simp)) rfl) (Swap_spec i j1 (by omega) (by omega) (hg.front 1).owns1 hW) ?_
      rintro _ w2 ⟨f2, ⟨v, rfl⟩, hW2, hg2⟩
      replace hg := (hg.front 1).callF hg2
      clear hg2
      refine ⟨_, rfl, ?_⟩
      refine WO.fr ?_
      have hst := hU.step (j := j1) (by omega) (by omega) (by omega) (by omega) hmin hlt
      have hl2 := swp_len h' i j1
      have hp2 := swp_perm h' i j1 (by omega) (by omega)
      repeat' (first | refine zN ?_ | (refine WC.quietG hg ?_; clear hg) | ((with_reducible refine WQ.nilG ?_); intro w hg) | (refine zB ?_; clear hg; intro b w hg; refine WO.fr ?_) | (refine zW ?_; clear hg; intro w hg; refine WO.fr ?_) | (refine op_pureB hg ?_; clear hg; intro w hg c hc; cases c <;> refine WO.fr ?_))
      with_reducible refine QX.norm ?_
      refine hK _ _ _ ?_ ?_ ?_
      · simp only [setAll, List.map_cons, List.map_nil, gt, List.set_cons_succ, List.set_cons_zero]
      all_goals try simp only [List.map_cons, List.map_nil, gt, intOf]
      · refine ⟨j1, swp h' i j1, _, trivial, rfl, by omega, ⟨ah, ch, f2, rfl, hW2⟩, hp2.trans hp, fun k hkn => ?_, hst, ?_⟩
        · rw [swp_getD _ _ _ _ (by omega) (by omega), if_neg (by omega), if_neg (by omega)]
          exact hk k hkn
        · rw [hl2]
          exact hg.swap.perm (by simp)
      · omega
    · rw [decide_eq_false hlt]
      have hs : ∀ k, 0 < k → k < n → (k - 1) / 2 = i → h'.getD i 0 ≤ h'.getD k 0 := fun k h0 hkn hpar => by
        have := hmin k h0 hkn hpar
        omega
      repeat' (first | refine zN ?_ | (refine WC.quietG hg ?_; clear hg) | ((with_reducible refine WQ.nilG ?_); intro w hg) | (refine zB ?_; clear hg; intro b w hg; refine WO.fr ?_) | (refine zW ?_; clear hg; intro w hg; refine WO.fr ?_) | (refine op_pureB hg ?_; clear hg; intro w hg c hc; cases c <;> refine WO.fr ?_) | ((with_reducible refine WO.cid ?_); refine WO.xS ?_; intro c hc; cases c <;> (refine WO.fr ?_; try simp only [decide_eq_true_eq, decide_eq_false_iff_not, beq_iff_eq, beq_eq_false_iff_ne, bne_iff_ne, bne_eq_false_iff_eq, ne_eq] at hc)))
      all_goals exact ret1 rfl ⟨h', _, ⟨_, rfl⟩, ⟨ah, ch, fh, rfl, hW⟩, hp, hk, hU.stop hs, hg.perm (by simp)⟩
end Go.Proofs.YtkdidefghbeabaaGreat
