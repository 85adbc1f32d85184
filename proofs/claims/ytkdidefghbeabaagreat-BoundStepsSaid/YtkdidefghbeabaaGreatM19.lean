/- The document's alphabets: number, Join, Right, Bytes, First. -/
import Derived.Test.YtkdidefghbeabaaGreatM07
namespace Go.Proofs.YtkdidefghbeabaaGreat
open Go Go.RowKit
set_option maxRecDepth 10000
set_option linter.unusedSimpArgs false
set_option linter.unusedVariables false

theorem alphaN_app : ∀ {l : List Int} {n m : Nat} (k : Int), alphaN l n = some m → alphaN (l ++ [k]) n = if k < 0 ∨ (m : Int) < k then none else if k = m then some (m + 1) else some m
  | [], n, m, k, h => by simp [alphaN] at h; subst h; simp [alphaN]
  | x :: l, n, m, k, h => by
    obtain ⟨h1, h2, h3⟩ := alphaN_cons h
    have ih := alphaN_app k h3
    simp only [List.cons_append, alphaN]
    rw [if_neg (by omega)]
    by_cases he : x = n
    · rw [if_pos he] at h3 ih ⊢; exact ih
    · rw [if_neg he] at h3 ih ⊢; exact ih
theorem alphaN_pre : ∀ {l : List Int} {n : Nat} (r : List Int), alphaN l n = none → alphaN (l ++ r) n = none
  | [], n, r, h => by simp [alphaN] at h
  | x :: l, n, r, h => by
    simp only [List.cons_append, alphaN] at h ⊢
    split
    · rfl
    · rename_i h1
      rw [if_neg h1] at h
      split <;> rename_i h2
      · rw [if_pos h2] at h; exact alphaN_pre r h
      · rw [if_neg h2] at h; exact alphaN_pre r h
theorem alphaN_all : ∀ {l : List Int} {n m : Nat}, alphaN l n = some m → ∀ k : Nat, n ≤ k → k < m → (k : Int) ∈ l
  | [], n, m, h, k, h1, h2 => by simp [alphaN] at h; omega
  | x :: l, n, m, h, k, h1, h2 => by
    obtain ⟨g1, g2, g3⟩ := alphaN_cons h
    by_cases he : x = n
    · rw [if_pos he] at g3
      by_cases hk : k = n
      · rw [hk, ← he]; exact List.mem_cons_self
      · exact List.mem_cons_of_mem _ (alphaN_all g3 k (by omega) h2)
    · rw [if_neg he] at g3
      exact List.mem_cons_of_mem _ (alphaN_all g3 k h1 h2)

theorem number_spec (w0 : World) (v : Value) (l : List Int) (hS : IntsAt w0 v l) (i : Nat) (hi : i < l.length) : Calls Tryz.prog 145 #[v, .int .i64 i] w0 fun e w' => e = .returned (.int .i64 (l.getD i 0)) ∧ Goes w0 [] [] w' := by
  obtain ⟨b, k, cap, rfl, hc⟩ := hS.get hi
  have hg := Goes.refl w0
  have c1 : ∀ {w Fs}, Goes w0 [] Fs w → w.cell? ⟨b, k + i, none⟩ = some (.int .i64 (l.getD i 0)) := fun h => h.cellOld0 hc
  refine enter Tryz.func145 rfl (by simp only [Tryz.ntmps145, List.length_cons, List.length_nil, Nat.reduceAdd, Nat.reduceSub, List.replicate_succ, List.replicate_zero, List.cons_append, List.nil_append]; exact rfl) ?_
  repeat' (first | refine zN ?_ | (refine WC.quietG hg ?_; clear hg) | ((with_reducible refine WQ.nilG ?_); intro w hg) | (refine zB ?_; clear hg; intro b w hg; refine WO.fr ?_) | (refine zW ?_; clear hg; intro w hg; refine WO.fr ?_) | (refine op_pureB hg ?_; clear hg; intro w hg c hc; cases c <;> refine WO.fr ?_))
  exact ret1 rfl ⟨rfl, hg.drop⟩
theorem numberN_spec (w0 : World) (i : Nat) : Calls Tryz.prog 145 #[.slice none 0 0, .int .i64 i] w0 fun e w' => e = .returned (.int .i64 (-1)) ∧ Goes w0 [] [] w' := by
  have hg := Goes.refl w0
  refine enter Tryz.func145 rfl (by simp only [Tryz.ntmps145, List.length_cons, List.length_nil, Nat.reduceAdd, Nat.reduceSub, List.replicate_succ, List.replicate_zero, List.cons_append, List.nil_append]; exact rfl) ?_
  repeat' (first | refine zN ?_ | (refine WC.quietG hg ?_; clear hg) | ((with_reducible refine WQ.nilG ?_); intro w hg) | (refine zB ?_; clear hg; intro b w hg; refine WO.fr ?_) | (refine zW ?_; clear hg; intro w hg; refine WO.fr ?_) | (refine op_pureB hg ?_; clear hg; intro w hg c hc; cases c <;> refine WO.fr ?_))
  exact ret1 rfl ⟨rfl, hg.drop⟩

theorem ints_at {w0 w : World} {M : List Nat} {Fs : List Frag} {a : Option Addr} {cap n : Nat} {xs : List Int} {f : Frag} (h : Own 3 1 a n cap (xs.map encI).flatten f) (hn : xs.length = n) (hl : n ≤ 1000000) (hg : Goes w0 M (f :: Fs) w) : IntsAt w (.slice a n cap) xs := by
  subst hn
  exact ⟨a, cap, rfl, ints_own h hg hl⟩
/-- What numbers join to, up to the c-th. -/
def JnOK (a os : List Int) (c n : Nat) : Prop := os.length = c ∧ n ≤ c ∧ ((os = a.take c ∧ alphaN (a.take c) 0 = some n) ∨ ((∃ i, i < c ∧ os.getD i 0 ≠ a.getD i 0) ∧ alphaN a 0 = none))
theorem take_succ {a : List Int} {c : Nat} (hc : c < a.length) : a.take (c + 1) = a.take c ++ [a.getD c 0] := by
  rw [List.take_add_one, List.getElem?_eq_getElem hc, List.getD_eq_getElem?_getD, List.getElem?_eq_getElem hc]
  rfl
theorem JnOK.step {a os : List Int} {c n : Nat} {k : Int} (h : JnOK a os c n) (hc : c < a.length) (hk : os = a.take c → k = if a.getD c 0 ∈ a.take c then a.getD c 0 else (n : Int)) : JnOK a (os ++ [k]) (c + 1) (if k = n then n + 1 else n) := by
  obtain ⟨h1, h2, h3⟩ := h
  refine ⟨by simp [h1], by split <;> omega, ?_⟩
  rcases h3 with ⟨h4, h5⟩ | ⟨⟨i, hi, hne⟩, h6⟩
  · have hk := hk h4
    have happ := alphaN_app (a.getD c 0) h5
    obtain ⟨_, _, g3, _⟩ := alphaN_le h5
    generalize hx : a.getD c 0 = x at hk happ
    by_cases hbad : x < 0 ∨ (n : Int) < x
    · right
      rw [if_pos hbad] at happ
      have hnm : x ∉ a.take c := fun hm => by have := g3 x hm; omega
      rw [if_neg hnm] at hk
      refine ⟨⟨c, by omega, ?_⟩, ?_⟩
      · rw [List.getD_eq_getElem?_getD, List.getElem?_append_right (by omega), h1, Nat.sub_self, hx]
        simp
        omega
      · have := alphaN_pre (a.drop (c + 1)) happ
        rw [← hx, ← take_succ hc, List.take_append_drop] at this
        exact this
    · left
      rw [if_neg hbad] at happ
      have hkx : k = x := by
        by_cases hm : x ∈ a.take c
        · rw [if_pos hm] at hk; exact hk
        · rw [if_neg hm] at hk
          by_cases hn : x = n
          · omega
          · exfalso
            have := alphaN_all h5 x.toNat (Nat.zero_le _) (by omega)
            rw [Int.toNat_of_nonneg (by omega)] at this
            exact hm this
      subst hkx
      refine ⟨by rw [take_succ hc, hx, h4], ?_⟩
      rw [take_succ hc, hx, happ]
      split <;> rfl
  · right
    refine ⟨⟨i, by omega, ?_⟩, h6⟩
    rw [List.getD_eq_getElem?_getD, List.getElem?_append_left (by omega), ← List.getD_eq_getElem?_getD]
    exact hne

set_option maxHeartbeats 8000000 in
theorem Join_spec (w0 : World) (v : Value) (a : List Int) (hS : IntsAt w0 v a) (ha : a.length = 256) : Calls Tryz.prog 135 #[v, .slice none 0 0] w0 fun e w' => ∃ (os : List Int) (n : Nat) (ad : Option Addr) (cap : Nat) (f : Frag), e = .returned (.tuple #[.slice ad 256 cap, .int .i64 n]) ∧ JnOK a os 256 n ∧ Own 3 1 ad 256 cap (os.map encI).flatten f ∧ Goes w0 [] [f] w' := by
  have hg := Goes.refl w0
  have hS0 := hS
  obtain ⟨aa, ca, rfl, _⟩ := hS.slice
  refine enter Tryz.func135 rfl (by simp only [Tryz.ntmps135, List.length_cons, List.length_nil, Nat.reduceAdd, Nat.reduceSub, List.replicate_succ, List.replicate_zero, List.cons_append, List.nil_append]; exact rfl) ?_
  repeat' (first | refine zN ?_ | (refine WC.quietG hg ?_; clear hg) | ((with_reducible refine WQ.nilG ?_); intro w hg) | (refine zB ?_; clear hg; intro b w hg; refine WO.fr ?_) | (refine zW ?_; clear hg; intro w hg; refine WO.fr ?_) | (refine op_pureB hg ?_; clear hg; intro w hg c hc; cases c <;> refine WO.fr ?_))
  refine WC.loopS [6, 7, 8, 9, 10, 11, 12, 13, 14, 15, 16, 17, 18, 19, 20, 21, 22, 23, 24, 25, 26, 27, 28, 29, 30, 31, 32, 33, 34, 35, 36, 37, 38, 39, 40, 41, 42, 43, 44, 45, 46, 47, 48, 49] (fun xs d w => ∃ (c n : Nat) (os : List Int) (ad : Option Addr) (cap : Nat) (f : Frag), d = [] ∧ (gt xs 2) = .int .i64 c ∧ (gt xs 1) = .int .i64 n ∧ (gt xs 0) = .slice ad c cap ∧ c ≤ 256 ∧ JnOK a os c n ∧ Own 3 1 ad c cap (os.map encI).flatten f ∧ Goes w0 [] [f] w) (fun xs _ _ => 256 - (intOf (gt xs 2)).toNat) ?_ ?_
  · exact ⟨0, 0, [], none, 0, [], rfl, rfl, rfl, rfl, by omega, ⟨rfl, Nat.le_refl _, .inl ⟨by simp, by simp [alphaN]⟩⟩, .nil, hg.sub (by simp)⟩
  clear hg
  intro xs d w hlen hI K hK
  replace hlen := len_cons hlen
  obtain ⟨x6, xs, rfl, hlen⟩ := hlen
  replace hlen := len_cons hlen
  obtain ⟨x7, xs, rfl, hlen⟩ := hlen
  replace hlen := len_cons hlen
  obtain ⟨x8, xs, rfl, hlen⟩ := hlen
  replace hlen := len_cons hlen
  obtain ⟨x9, xs, rfl, hlen⟩ := hlen
  replace hlen := len_cons hlen
  obtain ⟨x10, xs, rfl, hlen⟩ := hlen
  replace hlen := len_cons hlen
  obtain ⟨x11, xs, rfl, hlen⟩ := hlen
  replace hlen := len_cons hlen
  obtain ⟨x12, xs, rfl, hlen⟩ := hlen
  replace hlen := len_cons hlen
  obtain ⟨x13, xs, rfl, hlen⟩ := hlen
  replace hlen := len_cons hlen
  obtain ⟨x14, xs, rfl, hlen⟩ := hlen
  replace hlen := len_cons hlen
  obtain ⟨x15, xs, rfl, hlen⟩ := hlen
  replace hlen := len_cons hlen
  obtain ⟨x16, xs, rfl, hlen⟩ := hlen
  replace hlen := len_cons hlen
  obtain ⟨x17, xs, rfl, hlen⟩ := hlen
  replace hlen := len_cons hlen
  obtain ⟨x18, xs, rfl, hlen⟩ := hlen
  replace hlen := len_cons hlen
  obtain ⟨x19, xs, rfl, hlen⟩ := hlen
  replace hlen := len_cons hlen
  obtain ⟨x20, xs, rfl, hlen⟩ := hlen
  replace hlen := len_cons hlen
  obtain ⟨x21, xs, rfl, hlen⟩ := hlen
  replace hlen := len_cons hlen
  obtain ⟨x22, xs, rfl, hlen⟩ := hlen
  replace hlen := len_cons hlen
  obtain ⟨x23, xs, rfl, hlen⟩ := hlen
  replace hlen := len_cons hlen
  obtain ⟨x24, xs, rfl, hlen⟩ := hlen
  replace hlen := len_cons hlen
  obtain ⟨x25, xs, rfl, hlen⟩ := hlen
  replace hlen := len_cons hlen
  obtain ⟨x26, xs, rfl, hlen⟩ := hlen
  replace hlen := len_cons hlen
  obtain ⟨x27, xs, rfl, hlen⟩ := hlen
  replace hlen := len_cons hlen
  obtain ⟨x28, xs, rfl, hlen⟩ := hlen
  replace hlen := len_cons hlen
  obtain ⟨x29, xs, rfl, hlen⟩ := hlen
  replace hlen := len_cons hlen
  obtain ⟨x30, xs, rfl, hlen⟩ := hlen
  replace hlen := len_cons hlen
  obtain ⟨x31, xs, rfl, hlen⟩ := hlen
  replace hlen := len_cons hlen
  obtain ⟨x32, xs, rfl, hlen⟩ := hlen
  replace hlen := len_cons hlen
  obtain ⟨x33, xs, rfl, hlen⟩ := hlen
  replace hlen := len_cons hlen
  obtain ⟨x34, xs, rfl, hlen⟩ := hlen
  replace hlen := len_cons hlen
  obtain ⟨x35, xs, rfl, hlen⟩ := hlen
  replace hlen := len_cons hlen
  obtain ⟨x36, xs, rfl, hlen⟩ := hlen
  replace hlen := len_cons hlen
  obtain ⟨x37, xs, rfl, hlen⟩ := hlen
  replace hlen := len_cons hlen
  obtain ⟨x38, xs, rfl, hlen⟩ := hlen
  replace hlen := len_cons hlen
  obtain ⟨x39, xs, rfl, hlen⟩ := hlen
  replace hlen := len_cons hlen
  obtain ⟨x40, xs, rfl, hlen⟩ := hlen
  replace hlen := len_cons hlen
  obtain ⟨x41, xs, rfl, hlen⟩ := hlen
  replace hlen := len_cons hlen
  obtain ⟨x42, xs, rfl, hlen⟩ := hlen
  replace hlen := len_cons hlen
  obtain ⟨x43, xs, rfl, hlen⟩ := hlen
  replace hlen := len_cons hlen
  obtain ⟨x44, xs, rfl, hlen⟩ := hlen
  replace hlen := len_cons hlen
  obtain ⟨x45, xs, rfl, hlen⟩ := hlen
  replace hlen := len_cons hlen
  obtain ⟨x46, xs, rfl, hlen⟩ := hlen
  replace hlen := len_cons hlen
  obtain ⟨x47, xs, rfl, hlen⟩ := hlen
  replace hlen := len_cons hlen
  obtain ⟨x48, xs, rfl, hlen⟩ := hlen
  replace hlen := len_cons hlen
  obtain ⟨x49, xs, rfl, hlen⟩ := hlen
  replace hlen := len_nil hlen
  subst hlen
  refine WC.frame (by simp only [setAll, List.set_cons_succ, List.set_cons_zero]; exact rfl) ?_
  try simp only [gt] at hI
  obtain ⟨c, n, os, ad, cap, f, rfl, rfl, rfl, rfl, hc, hJ, hO, hg⟩ := hI
  have hos := hJ.1
  have hnc := hJ.2.1
  by_cases hlt : c < 256
  rotate_left
  · obtain rfl : c = 256 := by omega
    repeat' (first | refine zN ?_ | (refine WC.quietG hg ?_; clear hg) | ((with_reducible refine WQ.nilG ?_); intro w hg) | (refine zB ?_; clear hg; intro b w hg; refine WO.fr ?_) | (refine zW ?_; clear hg; intro w hg; refine WO.fr ?_) | (refine op_pureB hg ?_; clear hg; intro w hg c hc; cases c <;> refine WO.fr ?_))
    exact ret (.tmp rfl (.tmp rfl .nil)) ⟨os, n, ad, cap, f, rfl, hJ, hO, hg⟩
  repeat' (first | refine zN ?_ | (refine WC.quietG hg ?_; clear hg) | ((with_reducible refine WQ.nilG ?_); intro w hg) | (refine zB ?_; clear hg; intro b w hg; refine WO.fr ?_) | (refine zW ?_; clear hg; intro w hg; refine WO.fr ?_) | (refine op_pureB hg ?_; clear hg; intro w hg c hc; cases c <;> refine WO.fr ?_))
  have hK1 := hK
  clear hK
  refine WC.loopS [9, 10, 16, 17, 18, 19, 20, 21, 22, 23, 24, 25, 26, 27, 28, 29, 30, 31, 32, 33, 34, 35, 36, 37, 38, 39, 40] (fun xs d w => ∃ (j : Nat) (k : Int), d = [] ∧ (gt xs 1) = .int .i64 j ∧ (gt xs 0) = .int .i64 k ∧ j ≤ c ∧ (os = a.take c → k = if a.getD c 0 ∈ a.take j then a.getD c 0 else (n : Int)) ∧ Goes w0 [] [f] w) (fun xs _ _ => c - (intOf (gt xs 1)).toNat) ?_ ?_
  · exact ⟨0, n, rfl, rfl, rfl, by omega, fun _ => by simp, hg⟩
  clear hg
  intro xs d w hlen hI K hK
  replace hlen := len_cons hlen
  obtain ⟨x9, xs, rfl, hlen⟩ := hlen
  replace hlen := len_cons hlen
  obtain ⟨x10, xs, rfl, hlen⟩ := hlen
  replace hlen := len_cons hlen
  obtain ⟨x16, xs, rfl, hlen⟩ := hlen
  replace hlen := len_cons hlen
  obtain ⟨x17, xs, rfl, hlen⟩ := hlen
  replace hlen := len_cons hlen
  obtain ⟨x18, xs, rfl, hlen⟩ := hlen
  replace hlen := len_cons hlen
  obtain ⟨x19, xs, rfl, hlen⟩ := hlen
  replace hlen := len_cons hlen
  obtain ⟨x20, xs, rfl, hlen⟩ := hlen
  replace hlen := len_cons hlen
  obtain ⟨x21, xs, rfl, hlen⟩ := hlen
  replace hlen := len_cons hlen
  obtain ⟨x22, xs, rfl, hlen⟩ := hlen
  replace hlen := len_cons hlen
  obtain ⟨x23, xs, rfl, hlen⟩ := hlen
  replace hlen := len_cons hlen
  obtain ⟨x24, xs, rfl, hlen⟩ := hlen
  replace hlen := len_cons hlen
  obtain ⟨x25, xs, rfl, hlen⟩ := hlen
  replace hlen := len_cons hlen
  obtain ⟨x26, xs, rfl, hlen⟩ := hlen
  replace hlen := len_cons hlen
  obtain ⟨x27, xs, rfl, hlen⟩ := hlen
  replace hlen := len_cons hlen
  obtain ⟨x28, xs, rfl, hlen⟩ := hlen
  replace hlen := len_cons hlen
  obtain ⟨x29, xs, rfl, hlen⟩ := hlen
  replace hlen := len_cons hlen
  obtain ⟨x30, xs, rfl, hlen⟩ := hlen
  replace hlen := len_cons hlen
  obtain ⟨x31, xs, rfl, hlen⟩ := hlen
  replace hlen := len_cons hlen
  obtain ⟨x32, xs, rfl, hlen⟩ := hlen
  replace hlen := len_cons hlen
  obtain ⟨x33, xs, rfl, hlen⟩ := hlen
  replace hlen := len_cons hlen
  obtain ⟨x34, xs, rfl, hlen⟩ := hlen
  replace hlen := len_cons hlen
  obtain ⟨x35, xs, rfl, hlen⟩ := hlen
  replace hlen := len_cons hlen
  obtain ⟨x36, xs, rfl, hlen⟩ := hlen
  replace hlen := len_cons hlen
  obtain ⟨x37, xs, rfl, hlen⟩ := hlen
  replace hlen := len_cons hlen
  obtain ⟨x38, xs, rfl, hlen⟩ := hlen
  replace hlen := len_cons hlen
  obtain ⟨x39, xs, rfl, hlen⟩ := hlen
  replace hlen := len_cons hlen
  obtain ⟨x40, xs, rfl, hlen⟩ := hlen
  replace hlen := len_nil hlen
  subst hlen
  refine WC.frame (by simp only [setAll, List.set_cons_succ, List.set_cons_zero]; exact rfl) ?_
  try simp only [gt] at hI
  obtain ⟨j, k, rfl, rfl, rfl, hj, hk, hg⟩ := hI
  have p1 : ∀ {w Fs}, Goes w0 [] Fs w → Calls Tryz.prog 145 #[.slice aa a.length ca, .int .i64 c] w _ := fun h => number_spec _ _ a (hS0.goes h) c (by omega)
  have p2 : ∀ {w Fs}, Goes w0 [] Fs w → Calls Tryz.prog 145 #[.slice aa a.length ca, .int .i64 j] w _ := fun h => number_spec _ _ a (hS0.goes h) j (by omega)
  have p3 : ∀ {w Fs}, Goes w0 [] Fs w → Calls Tryz.prog 145 #[.slice none 0 0, .int .i64 c] w _ := fun _ => numberN_spec _ _
  have p4 : ∀ {w Fs}, Goes w0 [] Fs w → Calls Tryz.prog 145 #[.slice none 0 0, .int .i64 j] w _ := fun _ => numberN_spec _ _
  by_cases hjc : j < c
  · obtain ⟨b, ko, cap', e, hcell⟩ := (ints_at hO hos (by omega) hg).get (i := j) (by omega)
    simp only [Value.slice.injEq] at e
    obtain ⟨rfl, _, rfl⟩ := e
    have c1 : ∀ {w}, Goes w0 [] [f] w → w.cell? ⟨b, ko + j, none⟩ = some (.int .i64 (os.getD j 0)) := fun h => by
      obtain ⟨b2, k2, cap2, e2, h2⟩ := (ints_at hO hos (by omega) h).get (i := j) (by omega)
      simp only [Value.slice.injEq, Option.some.injEq, Addr.mk.injEq] at e2
      obtain ⟨⟨rfl, rfl, _⟩, _, _⟩ := e2
      exact h2
    have htk : a.take (j + 1) = a.take j ++ [a.getD j 0] := take_succ (by omega)
    by_cases he : a.getD c 0 = a.getD j 0
    · repeat' (first | refine zN ?_ | (refine WC.quietG hg ?_; clear hg) | ((with_reducible refine WQ.nilG ?_); intro w hg) | (refine zB ?_; clear hg; intro b w hg; refine WO.fr ?_) | (refine zW ?_; clear hg; intro w hg; refine WO.fr ?_) | (refine op_pureB hg ?_; clear hg; intro w hg c hc; cases c <;> refine WO.fr ?_))
      clear p1 p2 p3 p4 c1
      with_reducible refine QX.norm ?_
      refine hK _ _ _ ?_ ?_ ?_
      · simp only [setAll, List.map_cons, List.map_nil, gt, List.set_cons_succ, List.set_cons_zero]
      all_goals try simp only [List.map_cons, List.map_nil, gt, intOf]
      · refine ⟨j + 1, _, trivial, rfl, rfl, by omega, fun ho => ?_, hg⟩
        rw [htk, if_pos (by rw [he]; simp), he, ho, List.getD_eq_getElem?_getD, List.getElem?_take, if_pos hjc, ← List.getD_eq_getElem?_getD]
      · omega
    · repeat' (first | refine zN ?_ | (refine WC.quietG hg ?_; clear hg) | ((with_reducible refine WQ.nilG ?_); intro w hg) | (refine zB ?_; clear hg; intro b w hg; refine WO.fr ?_) | (refine zW ?_; clear hg; intro w hg; refine WO.fr ?_) | (refine op_pureB hg ?_; clear hg; intro w hg c hc; cases c <;> refine WO.fr ?_))
      clear p1 p2 p3 p4 c1
      with_reducible refine QX.norm ?_
      refine hK _ _ _ ?_ ?_ ?_
      · simp only [setAll, List.map_cons, List.map_nil, gt, List.set_cons_succ, List.set_cons_zero]
      all_goals try simp only [List.map_cons, List.map_nil, gt, intOf]
      · refine ⟨j + 1, _, trivial, rfl, rfl, by omega, fun ho => ?_, hg⟩
        rw [hk ho, htk]
        by_cases hm : a.getD c 0 ∈ a.take j
        · rw [if_pos hm, if_pos (List.mem_append_left _ hm)]
        · rw [if_neg hm, if_neg (by simp only [List.mem_append, List.mem_singleton, not_or]; exact ⟨hm, he⟩)]
      · omega
  obtain rfl : j = c := by omega
  have hstep := hJ.step (k := k) (by omega) hk
  clear p1 p2 p3 p4 hK
  have hK := hK1
  by_cases hkn : k = n
  all_goals
    first | rw [if_pos hkn] at hstep | rw [if_neg hkn] at hstep
    repeat' (first | refine zN ?_ | ((with_reducible refine WQ.nilG ?_); intro w hg) | (refine zB ?_; clear hg; intro b w hg; refine WO.fr ?_) | (refine zW ?_; clear hg; intro w hg; refine WO.fr ?_) | (refine op_pureB hg ?_; clear hg; intro w hg c hc; cases c <;> refine WO.fr ?_))
    refine op_build1 hg ?_
    clear hg
    intro bs w hg
    refine WO.fr ?_
    refine op_append (hg.front 1) hO (Goes.src1 (hg.front 0) Und.out rfl rfl) ?_
    clear hg
    intro a' cap' f' w hO' hg
    refine WO.fr ?_
    repeat' (first | refine zN ?_ | ((with_reducible refine WQ.nilG ?_); intro w hg) | (refine zB ?_; clear hg; intro b w hg; refine WO.fr ?_) | (refine zW ?_; clear hg; intro w hg; refine WO.fr ?_) | (refine op_pureB hg ?_; clear hg; intro w hg c hc; cases c <;> refine WO.fr ?_))
    with_reducible refine QX.norm ?_
    refine hK _ _ _ ?_ ?_ ?_
    · simp only [setAll, List.map_cons, List.map_nil, gt, List.set_cons_succ, List.set_cons_zero]
    all_goals try simp only [List.map_cons, List.map_nil, gt, intOf]
    · exact ⟨j + 1, _, os ++ [k], a', cap', f', trivial, rfl, rfl, rfl, by omega, hstep, by simpa [encI] using hO', hg.tail1⟩
    · omega
def aRightB (a : List Int) : Bool := decide (a.length = 256) && (alphaN a 0).isSome
set_option maxHeartbeats 4000000 in
theorem aRight_spec (w0 : World) (v : Value) (a : List Int) (hS : IntsAt w0 v a) : Calls Tryz.prog 109 #[v] w0 fun e w' => e = .returned (.bool (aRightB a)) ∧ Goes w0 [] [] w' := by
  have hg := Goes.refl w0
  have hS0 := hS
  obtain ⟨aa, ca, rfl, _⟩ := hS.slice
  unfold aRightB
  refine enter Tryz.func109 rfl (by simp only [Tryz.ntmps109, List.length_cons, List.length_nil, Nat.reduceAdd, Nat.reduceSub, List.replicate_succ, List.replicate_zero, List.cons_append, List.nil_append]; exact rfl) ?_
  by_cases ha : a.length = 256
  rotate_left
  · rw [decide_eq_false ha]
    repeat' (first | refine zN ?_ | (refine WC.quietG hg ?_; clear hg) | ((with_reducible refine WQ.nilG ?_); intro w hg) | (refine zB ?_; clear hg; intro b w hg; refine WO.fr ?_) | (refine zW ?_; clear hg; intro w hg; refine WO.fr ?_) | (refine op_pureB hg ?_; clear hg; intro w hg c hc; cases c <;> refine WO.fr ?_))
    exact ret1 rfl ⟨rfl, hg.drop⟩
  rw [decide_eq_true ha]
  repeat' (first | refine zN ?_ | (refine WC.quietG hg ?_; clear hg) | ((with_reducible refine WQ.nilG ?_); intro w hg) | (refine zB ?_; clear hg; intro b w hg; refine WO.fr ?_) | (refine zW ?_; clear hg; intro w hg; refine WO.fr ?_) | (refine op_pureB hg ?_; clear hg; intro w hg c hc; cases c <;> refine WO.fr ?_))
  refine op_call (Join_spec w0 _ a hS0 ha) ?_
  rintro _ w ⟨os, n, ad, cap, f, rfl, hJ, hO, hg⟩
  refine ⟨_, rfl, ?_⟩
  refine WO.fr ?_
  have hos := hJ.1
  have hall : a.take 256 = a := List.take_of_length_le (by omega)
  repeat' (first | refine zN ?_ | (refine WC.quietG hg ?_; clear hg) | ((with_reducible refine WQ.nilG ?_); intro w hg) | (refine zB ?_; clear hg; intro b w hg; refine WO.fr ?_) | (refine zW ?_; clear hg; intro w hg; refine WO.fr ?_) | (refine op_pureB hg ?_; clear hg; intro w hg c hc; cases c <;> refine WO.fr ?_))
  refine WC.loopS [2, 5, 14, 15, 16, 17, 18, 19, 20, 21, 22, 23, 24, 25, 26] (fun xs d w => ∃ i : Nat, d = [] ∧ (gt xs 1) = .int .i64 i ∧ i ≤ 256 ∧ (∀ j, j < i → os.getD j 0 = a.getD j 0) ∧ Goes w0 [] [f] w) (fun xs _ _ => 256 - (intOf (gt xs 1)).toNat) ?_ ?_
  · exact ⟨0, rfl, rfl, by omega, by omega, hg⟩
  clear hg
  intro xs d w hlen hI K hK
  replace hlen := len_cons hlen
  obtain ⟨x2, xs, rfl, hlen⟩ := hlen
  replace hlen := len_cons hlen
  obtain ⟨x5, xs, rfl, hlen⟩ := hlen
  replace hlen := len_cons hlen
  obtain ⟨x14, xs, rfl, hlen⟩ := hlen
  replace hlen := len_cons hlen
  obtain ⟨x15, xs, rfl, hlen⟩ := hlen
  replace hlen := len_cons hlen
  obtain ⟨x16, xs, rfl, hlen⟩ := hlen
  replace hlen := len_cons hlen
  obtain ⟨x17, xs, rfl, hlen⟩ := hlen
  replace hlen := len_cons hlen
  obtain ⟨x18, xs, rfl, hlen⟩ := hlen
  replace hlen := len_cons hlen
  obtain ⟨x19, xs, rfl, hlen⟩ := hlen
  replace hlen := len_cons hlen
  obtain ⟨x20, xs, rfl, hlen⟩ := hlen
  replace hlen := len_cons hlen
  obtain ⟨x21, xs, rfl, hlen⟩ := hlen
  replace hlen := len_cons hlen
  obtain ⟨x22, xs, rfl, hlen⟩ := hlen
  replace hlen := len_cons hlen
  obtain ⟨x23, xs, rfl, hlen⟩ := hlen
  replace hlen := len_cons hlen
  obtain ⟨x24, xs, rfl, hlen⟩ := hlen
  replace hlen := len_cons hlen
  obtain ⟨x25, xs, rfl, hlen⟩ := hlen
  replace hlen := len_cons hlen
  obtain ⟨x26, xs, rfl, hlen⟩ := hlen
  replace hlen := len_nil hlen
  subst hlen
  refine WC.frame (by simp only [setAll, List.set_cons_succ, List.set_cons_zero]; exact rfl) ?_
  try simp only [gt] at hI
  obtain ⟨i, rfl, rfl, hi, hA, hg⟩ := hI
  by_cases hlt : i < 256
  rotate_left
  · have hsome : (alphaN a 0).isSome = true := by
      rcases hJ.2.2 with ⟨_, h⟩ | ⟨⟨j, hj, hne⟩, _⟩
      · rw [hall] at h; rw [h]; rfl
      · exact absurd (hA j (by omega)) hne
    rw [hsome]
    repeat' (first | refine zN ?_ | (refine WC.quietG hg ?_; clear hg) | ((with_reducible refine WQ.nilG ?_); intro w hg) | (refine zB ?_; clear hg; intro b w hg; refine WO.fr ?_) | (refine zW ?_; clear hg; intro w hg; refine WO.fr ?_) | (refine op_pureB hg ?_; clear hg; intro w hg c hc; cases c <;> refine WO.fr ?_))
    exact ret1 rfl ⟨rfl, hg.drop⟩
  obtain ⟨b, ko, cap', e, hcell⟩ := (ints_at hO hos (by omega) hg).get (i := i) (by omega)
  simp only [Value.slice.injEq] at e
  obtain ⟨rfl, _, rfl⟩ := e
  have c1 : ∀ {w}, Goes w0 [] [f] w → w.cell? ⟨b, ko + i, none⟩ = some (.int .i64 (os.getD i 0)) := fun h => by
    obtain ⟨b2, k2, cap2, e2, h2⟩ := (ints_at hO hos (by omega) h).get (i := i) (by omega)
    simp only [Value.slice.injEq, Option.some.injEq, Addr.mk.injEq] at e2
    obtain ⟨⟨rfl, rfl, _⟩, _, _⟩ := e2
    exact h2
  obtain ⟨ba, ka, cap2, e2, hca⟩ := hS0.get (i := i) (by omega)
  simp only [Value.slice.injEq] at e2
  obtain ⟨rfl, _, rfl⟩ := e2
  have c2 : ∀ {w Fs}, Goes w0 [] Fs w → w.cell? ⟨ba, ka + i, none⟩ = some (.int .i64 (a.getD i 0)) := fun h => h.cellOld0 hca
  by_cases he : os.getD i 0 = a.getD i 0
  · repeat' (first | refine zN ?_ | (refine WC.quietG hg ?_; clear hg) | ((with_reducible refine WQ.nilG ?_); intro w hg) | (refine zB ?_; clear hg; intro b w hg; refine WO.fr ?_) | (refine zW ?_; clear hg; intro w hg; refine WO.fr ?_) | (refine op_pureB hg ?_; clear hg; intro w hg c hc; cases c <;> refine WO.fr ?_))
    with_reducible refine QX.norm ?_
    refine hK _ _ _ ?_ ?_ ?_
    · simp only [setAll, List.map_cons, List.map_nil, gt, List.set_cons_succ, List.set_cons_zero]
    all_goals try simp only [List.map_cons, List.map_nil, gt, intOf]
    · exact ⟨i + 1, trivial, rfl, by omega, fun j hj => by
        by_cases e : j = i
        · rw [e]; exact he
        · exact hA j (by omega), hg⟩
    · omega
  · have hnone : (alphaN a 0).isSome = false := by
      rcases hJ.2.2 with ⟨h, _⟩ | ⟨_, h⟩
      · rw [hall] at h; rw [h] at he; exact absurd rfl he
      · rw [h]; rfl
    rw [hnone]
    repeat' (first | refine zN ?_ | (refine WC.quietG hg ?_; clear hg) | ((with_reducible refine WQ.nilG ?_); intro w hg) | (refine zB ?_; clear hg; intro b w hg; refine WO.fr ?_) | (refine zW ?_; clear hg; intro w hg; refine WO.fr ?_) | (refine op_pureB hg ?_; clear hg; intro w hg c hc; cases c <;> refine WO.fr ?_))
    exact ret1 rfl ⟨rfl, hg.drop⟩
set_option maxHeartbeats 4000000 in
theorem aBytes_spec (w0 : World) (v : Value) (a : List Int) (k : Int) (hS : IntsAt w0 v a) (ha : a.length = 256) : Calls Tryz.prog 136 #[v, .int .i64 k] w0 fun e w' => ∃ (bs : List Int) (ad : Option Addr) (cap : Nat) (f : Frag), e = .returned (.slice ad bs.length cap) ∧ bs.length ≤ 256 ∧ (0 < bs.length ↔ k ∈ a) ∧ Own 3 1 ad bs.length cap (bs.map encI).flatten f ∧ Goes w0 [] [f] w' := by
  have hg := Goes.refl w0
  have hS0 := hS
  obtain ⟨aa, ca, rfl, _⟩ := hS.slice
  refine enter Tryz.func136 rfl (by simp only [Tryz.ntmps136, List.length_cons, List.length_nil, Nat.reduceAdd, Nat.reduceSub, List.replicate_succ, List.replicate_zero, List.cons_append, List.nil_append]; exact rfl) ?_
  repeat' (first | refine zN ?_ | (refine WC.quietG hg ?_; clear hg) | ((with_reducible refine WQ.nilG ?_); intro w hg) | (refine zB ?_; clear hg; intro b w hg; refine WO.fr ?_) | (refine zW ?_; clear hg; intro w hg; refine WO.fr ?_) | (refine op_pureB hg ?_; clear hg; intro w hg c hc; cases c <;> refine WO.fr ?_))
  refine WC.loopS [5, 6, 7, 8, 9, 10, 11, 12, 13, 14, 15, 16, 17, 18, 19, 20, 21, 22, 23, 24, 25, 26] (fun xs d w => ∃ (i n : Nat) (bs : List Int) (ad : Option Addr) (cap : Nat) (f : Frag), d = [] ∧ (gt xs 1) = .int .i64 i ∧ (gt xs 0) = .slice ad n cap ∧ bs.length = n ∧ i ≤ 256 ∧ n ≤ i ∧ (0 < n ↔ k ∈ a.take i) ∧ Own 3 1 ad n cap (bs.map encI).flatten f ∧ Goes w0 [] [f] w) (fun xs _ _ => 256 - (intOf (gt xs 1)).toNat) ?_ ?_
  · exact ⟨0, 0, [], none, 0, [], rfl, rfl, rfl, rfl, by omega, by omega, by simp, .nil, hg.sub (by simp)⟩
  clear hg
  intro xs d w hlen hI K hK
  replace hlen := len_cons hlen
  obtain ⟨x5, xs, rfl, hlen⟩ := hlen
  replace hlen := len_cons hlen
  obtain ⟨x6, xs, rfl, hlen⟩ := hlen
  replace hlen := len_cons hlen
  obtain ⟨x7, xs, rfl, hlen⟩ := hlen
  replace hlen := len_cons hlen
  obtain ⟨x8, xs, rfl, hlen⟩ := hlen
  replace hlen := len_cons hlen
  obtain ⟨x9, xs, rfl, hlen⟩ := hlen
  replace hlen := len_cons hlen
  obtain ⟨x10, xs, rfl, hlen⟩ := hlen
  replace hlen := len_cons hlen
  obtain ⟨x11, xs, rfl, hlen⟩ := hlen
  replace hlen := len_cons hlen
  obtain ⟨x12, xs, rfl, hlen⟩ := hlen
  replace hlen := len_cons hlen
  obtain ⟨x13, xs, rfl, hlen⟩ := hlen
  replace hlen := len_cons hlen
  obtain ⟨x14, xs, rfl, hlen⟩ := hlen
  replace hlen := len_cons hlen
  obtain ⟨x15, xs, rfl, hlen⟩ := hlen
  replace hlen := len_cons hlen
  obtain ⟨x16, xs, rfl, hlen⟩ := hlen
  replace hlen := len_cons hlen
  obtain ⟨x17, xs, rfl, hlen⟩ := hlen
  replace hlen := len_cons hlen
  obtain ⟨x18, xs, rfl, hlen⟩ := hlen
  replace hlen := len_cons hlen
  obtain ⟨x19, xs, rfl, hlen⟩ := hlen
  replace hlen := len_cons hlen
  obtain ⟨x20, xs, rfl, hlen⟩ := hlen
  replace hlen := len_cons hlen
  obtain ⟨x21, xs, rfl, hlen⟩ := hlen
  replace hlen := len_cons hlen
  obtain ⟨x22, xs, rfl, hlen⟩ := hlen
  replace hlen := len_cons hlen
  obtain ⟨x23, xs, rfl, hlen⟩ := hlen
  replace hlen := len_cons hlen
  obtain ⟨x24, xs, rfl, hlen⟩ := hlen
  replace hlen := len_cons hlen
  obtain ⟨x25, xs, rfl, hlen⟩ := hlen
  replace hlen := len_cons hlen
  obtain ⟨x26, xs, rfl, hlen⟩ := hlen
  replace hlen := len_nil hlen
  subst hlen
  refine WC.frame (by simp only [setAll, List.set_cons_succ, List.set_cons_zero]; exact rfl) ?_
  try simp only [gt] at hI
  obtain ⟨i, n, bs, ad, cap, f, rfl, rfl, rfl, hbl, hi, hni, hmem, hO, hg⟩ := hI
  by_cases hlt : i < 256
  rotate_left
  · rw [List.take_of_length_le (by omega)] at hmem
    subst hbl
    repeat' (first | refine zN ?_ | (refine WC.quietG hg ?_; clear hg) | ((with_reducible refine WQ.nilG ?_); intro w hg) | (refine zB ?_; clear hg; intro b w hg; refine WO.fr ?_) | (refine zW ?_; clear hg; intro w hg; refine WO.fr ?_) | (refine op_pureB hg ?_; clear hg; intro w hg c hc; cases c <;> refine WO.fr ?_))
    exact ret1 rfl ⟨bs, ad, cap, f, rfl, by omega, hmem, hO, hg⟩
  obtain ⟨ba, ka, cap2, e2, hca⟩ := hS0.get (i := i) (by omega)
  simp only [Value.slice.injEq] at e2
  obtain ⟨rfl, _, rfl⟩ := e2
  have c2 : ∀ {w Fs}, Goes w0 [] Fs w → w.cell? ⟨ba, ka + i, none⟩ = some (.int .i64 (a.getD i 0)) := fun h => h.cellOld0 hca
  have htk : a.take (i + 1) = a.take i ++ [a.getD i 0] := take_succ (by omega)
  by_cases he : a.getD i 0 = k
  · repeat' (first | refine zN ?_ | ((with_reducible refine WQ.nilG ?_); intro w hg) | (refine zB ?_; clear hg; intro b w hg; refine WO.fr ?_) | (refine zW ?_; clear hg; intro w hg; refine WO.fr ?_) | (refine op_pureB hg ?_; clear hg; intro w hg c hc; cases c <;> refine WO.fr ?_))
    refine op_build1 hg ?_
    clear hg
    intro b w hg
    refine WO.fr ?_
    refine op_append (hg.front 1) hO (Goes.src1 (hg.front 0) Und.out rfl rfl) ?_
    clear hg
    intro a' cap' f' w hO' hg
    refine WO.fr ?_
    repeat' (first | refine zN ?_ | ((with_reducible refine WQ.nilG ?_); intro w hg) | (refine zB ?_; clear hg; intro b w hg; refine WO.fr ?_) | (refine zW ?_; clear hg; intro w hg; refine WO.fr ?_) | (refine op_pureB hg ?_; clear hg; intro w hg c hc; cases c <;> refine WO.fr ?_))
    with_reducible refine QX.norm ?_
    refine hK _ _ _ ?_ ?_ ?_
    · simp only [setAll, List.map_cons, List.map_nil, gt, List.set_cons_succ, List.set_cons_zero]
    all_goals try simp only [List.map_cons, List.map_nil, gt, intOf]
    · exact ⟨i + 1, n + 1, bs ++ [(i : Int)], a', cap', f', trivial, rfl, rfl, by simp [hbl], by omega, by omega, ⟨fun _ => by rw [htk, he]; simp, fun _ => by omega⟩, by simpa [encI] using hO', hg.tail1⟩
    · omega
  · repeat' (first | refine zN ?_ | ((with_reducible refine WQ.nilG ?_); intro w hg) | (refine zB ?_; clear hg; intro b w hg; refine WO.fr ?_) | (refine zW ?_; clear hg; intro w hg; refine WO.fr ?_) | (refine op_pureB hg ?_; clear hg; intro w hg c hc; cases c <;> refine WO.fr ?_))
    with_reducible refine QX.norm ?_
    refine hK _ _ _ ?_ ?_ ?_
    · simp only [setAll, List.map_cons, List.map_nil, gt, List.set_cons_succ, List.set_cons_zero]
    all_goals try simp only [List.map_cons, List.map_nil, gt, intOf]
    · exact ⟨i + 1, n, bs, ad, cap, f, trivial, rfl, rfl, hbl, by omega, by omega, by rw [htk, hmem, List.mem_append, List.mem_singleton]; exact ⟨.inl, fun h => h.resolve_right (fun e => he e.symm)⟩, hO, hg⟩
    · omega
set_option maxHeartbeats 4000000 in
theorem aFirst_spec (w0 : World) (v : Value) (a : List Int) (m : Nat) (hS : IntsAt w0 v a) (ha : a.length = 256) (hm : alphaN a 0 = some m) : Calls Tryz.prog 110 #[v] w0 fun e w' => ∃ (ad : Option Addr) (cap : Nat) (f : Frag), e = .returned (.slice ad m cap) ∧ Goes w0 [] [f] w' := by
  have hg := Goes.refl w0
  have hS0 := hS
  have hR : aRightB a = true := by unfold aRightB; rw [decide_eq_true ha, hm]; rfl
  have p1 : ∀ {w Fs}, Goes w0 [] Fs w → Calls Tryz.prog 109 #[v] w _ := fun h => aRight_spec _ _ a (hS0.goes h)
  rw [hR] at p1
  have hml := (alphaN_le hm).2.1
  have hmem : ∀ k : Nat, (k : Int) ∈ a ↔ k < m := fun k => ⟨fun h => by have := (alphaN_le hm).2.2.1 _ h; omega, fun h => alphaN_all hm k (Nat.zero_le _) h⟩
  obtain ⟨aa, ca, rfl, _⟩ := hS.slice
  refine enter Tryz.func110 rfl (by simp only [Tryz.ntmps110, List.length_cons, List.length_nil, Nat.reduceAdd, Nat.reduceSub, List.replicate_succ, List.replicate_zero, List.cons_append, List.nil_append]; exact rfl) ?_
  repeat' (first | refine zN ?_ | (refine WC.quietG hg ?_; clear hg) | ((with_reducible refine WQ.nilG ?_); intro w hg) | (refine zB ?_; clear hg; intro b w hg; refine WO.fr ?_) | (refine zW ?_; clear hg; intro w hg; refine WO.fr ?_) | (refine op_pureB hg ?_; clear hg; intro w hg c hc; cases c <;> refine WO.fr ?_))
  clear p1
  refine WC.loopS [3, 4, 5, 10, 11, 12, 13, 14, 15, 16, 17, 18, 19, 20, 21, 22, 23, 24, 25] (fun xs d w => ∃ (k n : Nat) (bs : List Int) (ad : Option Addr) (cap : Nat) (f : Frag), d = [] ∧ (gt xs 1) = .int .i64 k ∧ (gt xs 0) = .slice ad n cap ∧ n = min k m ∧ k ≤ 256 ∧ Own 3 1 ad n cap (bs.map encI).flatten f ∧ Goes w0 [] [f] w) (fun xs _ _ => 256 - (intOf (gt xs 1)).toNat) ?_ ?_
  · exact ⟨0, 0, [], none, 0, [], rfl, rfl, rfl, by omega, by omega, .nil, hg.sub (by simp)⟩
  clear hg
  intro xs d w hlen hI K hK
  replace hlen := len_cons hlen
  obtain ⟨x3, xs, rfl, hlen⟩ := hlen
  replace hlen := len_cons hlen
  obtain ⟨x4, xs, rfl, hlen⟩ := hlen
  replace hlen := len_cons hlen
  obtain ⟨x5, xs, rfl, hlen⟩ := hlen
  replace hlen := len_cons hlen
  obtain ⟨x10, xs, rfl, hlen⟩ := hlen
  replace hlen := len_cons hlen
  obtain ⟨x11, xs, rfl, hlen⟩ := hlen
  replace hlen := len_cons hlen
  obtain ⟨x12, xs, rfl, hlen⟩ := hlen
  replace hlen := len_cons hlen
  obtain ⟨x13, xs, rfl, hlen⟩ := hlen
  replace hlen := len_cons hlen
  obtain ⟨x14, xs, rfl, hlen⟩ := hlen
  replace hlen := len_cons hlen
  obtain ⟨x15, xs, rfl, hlen⟩ := hlen
  replace hlen := len_cons hlen
  obtain ⟨x16, xs, rfl, hlen⟩ := hlen
  replace hlen := len_cons hlen
  obtain ⟨x17, xs, rfl, hlen⟩ := hlen
  replace hlen := len_cons hlen
  obtain ⟨x18, xs, rfl, hlen⟩ := hlen
  replace hlen := len_cons hlen
  obtain ⟨x19, xs, rfl, hlen⟩ := hlen
  replace hlen := len_cons hlen
  obtain ⟨x20, xs, rfl, hlen⟩ := hlen
  replace hlen := len_cons hlen
  obtain ⟨x21, xs, rfl, hlen⟩ := hlen
  replace hlen := len_cons hlen
  obtain ⟨x22, xs, rfl, hlen⟩ := hlen
  replace hlen := len_cons hlen
  obtain ⟨x23, xs, rfl, hlen⟩ := hlen
  replace hlen := len_cons hlen
  obtain ⟨x24, xs, rfl, hlen⟩ := hlen
  replace hlen := len_cons hlen
  obtain ⟨x25, xs, rfl, hlen⟩ := hlen
  replace hlen := len_nil hlen
  subst hlen
  refine WC.frame (by simp only [setAll, List.set_cons_succ, List.set_cons_zero]; exact rfl) ?_
  try simp only [gt] at hI
  obtain ⟨k, n, bs, ad, cap, f, rfl, rfl, rfl, hn, hk, hO, hg⟩ := hI
  by_cases hlt : k < 256
  rotate_left
  · obtain rfl : n = m := by omega
    repeat' (first | refine zN ?_ | (refine WC.quietG hg ?_; clear hg) | ((with_reducible refine WQ.nilG ?_); intro w hg) | (refine zB ?_; clear hg; intro b w hg; refine WO.fr ?_) | (refine zW ?_; clear hg; intro w hg; refine WO.fr ?_) | (refine op_pureB hg ?_; clear hg; intro w hg c hc; cases c <;> refine WO.fr ?_))
    exact ret1 rfl ⟨ad, cap, f, rfl, hg⟩
  repeat' (first | refine zN ?_ | ((with_reducible refine WQ.nilG ?_); intro w hg) | (refine zB ?_; clear hg; intro b w hg; refine WO.fr ?_) | (refine zW ?_; clear hg; intro w hg; refine WO.fr ?_) | (refine op_pureB hg ?_; clear hg; intro w hg c hc; cases c <;> refine WO.fr ?_))
  refine op_call (aBytes_spec _ _ a k (hS0.goes hg) ha) ?_
  rintro _ w ⟨xs, ax, cx, fx, rfl, hxl, hxm, hOx, hg2⟩
  replace hg := hg.call0 hg2
  simp only [List.cons_append, List.nil_append] at hg
  clear hg2
  refine ⟨_, rfl, ?_⟩
  refine WO.fr ?_
  rw [hmem k] at hxm
  by_cases hkm : k < m
  · have hx0 := hxm.2 hkm
    obtain ⟨b, ko, cap', e, hcell⟩ := (ints_at hOx rfl (by omega) hg).get (i := 0) hx0
    simp only [Value.slice.injEq] at e
    obtain ⟨rfl, _, rfl⟩ := e
    have c1 : ∀ {w}, Goes w0 [] [fx, f] w → w.cell? ⟨b, ko, none⟩ = some (.int .i64 (xs.getD 0 0)) := fun h => by
      obtain ⟨b2, k2, cap2, e2, h2⟩ := (ints_at hOx rfl (by omega) h).get (i := 0) hx0
      simp only [Value.slice.injEq, Option.some.injEq, Addr.mk.injEq] at e2
      obtain ⟨⟨rfl, rfl, _⟩, _, _⟩ := e2
      exact h2
    repeat' (first | refine zN ?_ | ((with_reducible refine WQ.nilG ?_); intro w hg) | (refine zB ?_; clear hg; intro b w hg; refine WO.fr ?_) | (refine zW ?_; clear hg; intro w hg; refine WO.fr ?_) | (refine op_pureB hg ?_; clear hg; intro w hg c hc; cases c <;> refine WO.fr ?_))
    refine op_build1 hg ?_
    clear hg
    intro b w hg
    refine WO.fr ?_
    refine op_append (hg.front 2) hO (Goes.src1 (hg.front 0) Und.out rfl rfl) ?_
    clear hg
    intro a' cap' f' w hO' hg
    refine WO.fr ?_
    repeat' (first | refine zN ?_ | ((with_reducible refine WQ.nilG ?_); intro w hg) | (refine zB ?_; clear hg; intro b w hg; refine WO.fr ?_) | (refine zW ?_; clear hg; intro w hg; refine WO.fr ?_) | (refine op_pureB hg ?_; clear hg; intro w hg c hc; cases c <;> refine WO.fr ?_))
    with_reducible refine QX.norm ?_
    refine hK _ _ _ ?_ ?_ ?_
    · simp only [setAll, List.map_cons, List.map_nil, gt, List.set_cons_succ, List.set_cons_zero]
    all_goals try simp only [List.map_cons, List.map_nil, gt, intOf]
    · exact ⟨k + 1, n + 1, bs ++ [xs.getD 0 0], a', cap', f', trivial, rfl, rfl, by omega, by omega, by simpa [encI] using hO', hg.tail1.tail1⟩
    · omega
  · have hx0 : xs.length = 0 := by
      have : ¬ 0 < xs.length := fun h => hkm (hxm.1 h)
      omega
    repeat' (first | refine zN ?_ | ((with_reducible refine WQ.nilG ?_); intro w hg) | (refine zB ?_; clear hg; intro b w hg; refine WO.fr ?_) | (refine zW ?_; clear hg; intro w hg; refine WO.fr ?_) | (refine op_pureB hg ?_; clear hg; intro w hg c hc; cases c <;> refine WO.fr ?_))
    with_reducible refine QX.norm ?_
    refine hK _ _ _ ?_ ?_ ?_
    · simp only [setAll, List.map_cons, List.map_nil, gt, List.set_cons_succ, List.set_cons_zero]
    all_goals try simp only [List.map_cons, List.map_nil, gt, intOf]
    · exact ⟨k + 1, n, bs, ad, cap, f, trivial, rfl, rfl, by omega, by omega, hO, hg.drop0⟩
    · omega
end Go.Proofs.YtkdidefghbeabaaGreat
