/- Marks: as they lie; New, Room, number, find, Low, Get. Marks: Low, Get, Set, Release. -/
import Derived.Test.YtkdidefghbeabaaGreatM15
import Derived.Test.YtkdidefghbeabaaGreatM09
namespace Go.Proofs.YtkdidefghbeabaaGreat
open Go Go.RowKit
set_option maxRecDepth 10000
set_option linter.unusedSimpArgs false
set_option linter.unusedVariables false

structure Slt where
  taken : Bool
  times : Int
  low : Int
  at' : Int
  md : Int
  dp : Int
  sp : Value
def Slt.enc (x : Slt) : List Value := [.bool x.taken, .int .i64 x.times, .int .i64 x.low, .int .i64 x.at', .int .i64 x.md, .int .i64 x.dp, x.sp]
def Slt.none : Slt := ⟨false, 0, 0, 0, 0, 0, .slice Option.none 0 0⟩
structure SltOK (fB : Frag) (T : Nat) (x : Slt) : Prop where
  t : 0 ≤ x.times ∧ x.times ≤ T
  s : ∃ a n c, x.sp = .slice a n c
  b : x.taken = true → TrOK fB x.dp x.sp
theorem SltOK.mono {f g : Frag} {T T' : Nat} {x : Slt} (h : SltOK f T x) (hs : Sub f g) (hT : T ≤ T') : SltOK g T' x := ⟨⟨h.t.1, by have := h.t.2; omega⟩, h.s, fun e => (h.b e).mono hs⟩
/-- A table of marks, as it lies. -/
def MarkF (pm : Nat) (sl : List Slt) (f : Frag) : Prop := ∃ g, f = [(pm, .cells [.slice (some ⟨g, 0, none⟩) sl.length sl.length].toArray 118 (0, 0)), (g, .cells (sl.map Slt.enc).flatten.toArray 174 (0, 0))]
theorem Slt.get {sl : List Slt} {i : Nat} (h : i < sl.length) : sl[i]? = some (sl.getD i Slt.none) := by rw [List.getD_eq_getElem?_getD, List.getElem?_eq_getElem h]; rfl
theorem Slt.mem {sl : List Slt} {i : Nat} (h : i < sl.length) : sl.getD i Slt.none ∈ sl := List.mem_of_getElem? (Slt.get h)

section
variable {P : Program} {r : Option Nat} {Q : Exit → Go.Act → World → Prop} {l : List Value} {d : List Deferred} {w w0 : World} {M : List Nat} {Fs : List Frag}
variable {ops : Array Oper} {os : List Oper} {dst : Option Tmp} {ty : TypeId} {pos : String} {af : Array Edge}
theorem made_repl (z : Array Value) (zs : List Value) (h : z = zs.toArray) (h0 : 0 < zs.length) (n : Nat) : madeCells z (n * zs.length) = (repl zs n).toArray := by
  subst h
  unfold madeCells
  apply Array.ext'
  apply List.ext_getElem?
  intro i
  simp only [Array.toList_map, Array.toList_range, List.getElem?_map]
  rcases Nat.lt_or_ge i (n * zs.length) with hlt | hge
  · rw [repl_get zs n h0 i hlt, List.getElem?_range hlt]
    have hm : i % zs.length < zs.length := Nat.mod_lt _ h0
    simp [hm]
  · rw [List.getElem?_eq_none (l := List.range (n * zs.length)) (by simpa using hge), List.getElem?_eq_none (by rw [repl_len]; exact hge)]
    rfl
theorem op_makeN {t e : TypeId} {x y : Operand} {k1 k2 : IntKind} {s m c by' : Nat} {zs : List Value} [H : Und P t (.slice e)] [S : Size P e s] [B : Bytes P e by'] [Z : Zero P e zs] (hg : Goes w0 M Fs w)
    (h : ∀ b w', Goes w0 M ([(b, .cells (repl zs c).toArray e (0, 0))] :: Fs) w' → WO P r ops Q os (put l dst (.slice (some ⟨b, 0, none⟩) m c)) d w')
    (hx : ev l x = .int k1 m := by first | (simp only [ev, gt, put, List.set_cons_succ, List.set_cons_zero, Nat.zero_add, Nat.add_zero, Nat.mul_one, Nat.reduceAdd, Nat.reduceMul, Int.toNat_natCast, Int.reduceToNat, List.map_cons, List.map_nil, List.cons_append, List.nil_append]; exact rfl) | simp only [ev, gt, put, List.set_cons_succ, List.set_cons_zero, Nat.zero_add, Nat.add_zero, Nat.mul_one, Nat.reduceAdd, Nat.reduceMul, Int.toNat_natCast, Int.reduceToNat, List.map_cons, List.map_nil, List.cons_append, List.nil_append]) (hy : ev l y = .int k2 c := by first | (simp only [ev, gt, put, List.set_cons_succ, List.set_cons_zero, Nat.zero_add, Nat.add_zero, Nat.mul_one, Nat.reduceAdd, Nat.reduceMul, Int.toNat_natCast, Int.reduceToNat, List.map_cons, List.map_nil, List.cons_append, List.nil_append]; exact rfl) | simp only [ev, gt, put, List.set_cons_succ, List.set_cons_zero, Nat.zero_add, Nat.add_zero, Nat.mul_one, Nat.reduceAdd, Nat.reduceMul, Int.toNat_natCast, Int.reduceToNat, List.map_cons, List.map_nil, List.cons_append, List.nil_append]) (hz : zs.length = s := by exact rfl) (h0 : 0 < s := by decide) (hmc : m ≤ c := by omega) (hc : c * s ≤ 16777216 := by omega) (hb : by' * c ≤ 281474976710656 := by omega) :
    WO P r ops Q (⟨dst, .makeSlice t x y, ty, pos, af, none⟩ :: os) l d w := by
  have hzo := Z.out
  have hso := S.out
  have hbo := B.out
  cases hi : P.info? e with
  | none => simp [hi] at hzo
  | some ie =>
    simp [hi] at hzo hso hbo
    obtain ⟨zz, hz1, hzc⟩ := hzo
    have hcs : zz.cells = zs.toArray := by apply Array.ext'; rw [hzc]
    have hc63 : c ≤ 16777216 := by
      have : c * 1 ≤ c * s := Nat.mul_le_mul_left _ h0
      omega
    have hrun := run_makeSlice (P := P) w t e ie zz H.out hi hz1 k1 k2 m c (by omega) (by omega) (by rw [hso, Int.toNat_natCast]; exact hc) (by rw [hbo, ← Int.natCast_mul]; exact Int.ofNat_le.2 hb) (by omega)
    rw [hso, Int.toNat_natCast, Int.toNat_natCast, ← hz, made_repl zz.cells zs hcs (by omega)] at hrun
    refine WO.val (by simp) ?_ rfl (h w.heap.size _ (hg.alloc _))
    simp [execOp, St_eval, hx, hy, hrun]
end
theorem repl_enc (n : Nat) : repl Slt.none.enc n = ((List.replicate n Slt.none).map Slt.enc).flatten := by
  induction n with
  | zero => rfl
  | succ n ih => rw [repl, ih, List.replicate_succ, List.map_cons, List.flatten_cons]

theorem mNew_spec (w0 : World) (n : Int) (h1 : 1 ≤ n) (h2 : n ≤ 4096) : Calls Tryz.prog 26 #[.int .i64 n] w0 fun e w' => ∃ pm f, e = .returned (.pointer (some ⟨pm, 0, none⟩)) ∧ MarkF pm (List.replicate n.toNat Slt.none) f ∧ Goes w0 [] [f] w' := by
  obtain ⟨k, rfl⟩ : ∃ k : Nat, n = k := ⟨n.toNat, by omega⟩
  have hg := Goes.refl w0
  refine enter Tryz.func26 rfl (by simp only [Tryz.ntmps26, List.length_cons, List.length_nil, Nat.reduceAdd, Nat.reduceSub, List.replicate_succ, List.replicate_zero, List.cons_append, List.nil_append]; exact rfl) ?_
  repeat' (first | refine zN ?_ | (refine WC.quietG hg ?_; clear hg) | ((with_reducible refine WQ.nilG ?_); intro w hg) | (refine zB ?_; clear hg; intro b w hg; refine WO.fr ?_) | (refine zW ?_; clear hg; intro w hg; refine WO.fr ?_) | (refine op_pureB hg ?_; clear hg; intro w hg c hc; cases c <;> refine WO.fr ?_))
  rw [show min (max (k : Int) 1) 4096 = (k : Nat) from by omega]
  refine op_makeN hg ?_
  clear hg
  intro g w hg
  refine WO.fr ?_
  repeat' (first | refine zN ?_ | (refine WC.quietG hg ?_; clear hg) | ((with_reducible refine WQ.nilG ?_); intro w hg) | (refine zB ?_; clear hg; intro b w hg; refine WO.fr ?_) | (refine zW ?_; clear hg; intro w hg; refine WO.fr ?_) | (refine op_pureB hg ?_; clear hg; intro w hg c hc; cases c <;> refine WO.fr ?_))
  have hrep := repl_enc k
  simp only [Slt.enc, Slt.none] at hrep
  rw [hrep] at hg
  refine ret1 rfl ⟨b, _, rfl, ⟨g, rfl⟩, ?_⟩
  rw [Int.toNat_natCast, List.length_replicate]
  exact hg.perm (by simp; rfl)

section
variable {pm : Nat} {sl : List Slt} {f : Frag} {w0 : World}
theorem MarkF.cells (hF : MarkF pm sl f) {w : World} (h : ∀ p ∈ f, w.heap[p.1]? = some p.2) : ∃ g, w.cell? ⟨pm, 0, none⟩ = some (.slice (some ⟨g, 0, none⟩) sl.length sl.length) ∧ ∀ i, i < sl.length → Cells w ⟨g, i * 7, none⟩ (sl.getD i Slt.none).enc := by
  obtain ⟨g, rfl⟩ := hF
  refine ⟨g, heap_cell (h (pm, .cells [.slice (some ⟨g, 0, none⟩) sl.length sl.length].toArray 118 (0, 0)) (by simp)) rfl, fun i hi j v hj => ?_⟩
  have h2 := h (g, .cells (sl.map Slt.enc).flatten.toArray 174 (0, 0)) (by simp)
  rw [add_lit]
  refine heap_cell h2 ?_
  exact rows_get 7 _ (fun r hr => by obtain ⟨x, _, rfl⟩ := List.mem_map.1 hr; rfl) i j _ v (by rw [List.getElem?_map, Slt.get hi]; rfl) hj
theorem mRoom_cell {a : Option Addr} {n c : Nat} (hc : w0.cell? ⟨pm, 0, none⟩ = some (.slice a n c)) : Calls Tryz.prog 118 #[.pointer (some ⟨pm, 0, none⟩)] w0 fun e w' => e = .returned (.int .i64 n) ∧ Goes w0 [] [] w' := by
  have hg := Goes.refl w0
  have c1 : ∀ {w' Fs}, Goes w0 [] Fs w' → w'.cell? ⟨pm, 0, none⟩ = some (.slice a n c) := fun h => h.cellOld0 hc
  refine enter Tryz.func118 rfl (by simp only [Tryz.ntmps118, List.length_cons, List.length_nil, Nat.reduceAdd, Nat.reduceSub, List.replicate_succ, List.replicate_zero, List.cons_append, List.nil_append]; exact rfl) ?_
  repeat' (first | refine zN ?_ | (refine WC.quietG hg ?_; clear hg) | ((with_reducible refine WQ.nilG ?_); intro w hg) | (refine zB ?_; clear hg; intro b w hg; refine WO.fr ?_) | (refine zW ?_; clear hg; intro w hg; refine WO.fr ?_) | (refine op_pureB hg ?_; clear hg; intro w hg c hc; cases c <;> refine WO.fr ?_))
  exact ret1 rfl ⟨rfl, hg.drop⟩
theorem mfree_spec (w0 : World) (t : Bool) (n k : Int) : Calls Tryz.prog 119 #[.agg #[.bool t, .int .i64 n, .int .i64 k]] w0 fun e w' => e = .returned (.bool (!t)) ∧ Goes w0 [] [] w' := by
  have hg := Goes.refl w0
  refine enter Tryz.func119 rfl (by simp only [Tryz.ntmps119, List.length_cons, List.length_nil, Nat.reduceAdd, Nat.reduceSub, List.replicate_succ, List.replicate_zero, List.cons_append, List.nil_append]; exact rfl) ?_
  repeat' (first | refine zN ?_ | (refine WC.quietG hg ?_; clear hg) | ((with_reducible refine WQ.nilG ?_); intro w hg) | (refine zB ?_; clear hg; intro b w hg; refine WO.fr ?_) | (refine zW ?_; clear hg; intro w hg; refine WO.fr ?_) | (refine op_pureB hg ?_; clear hg; intro w hg c hc; cases c <;> refine WO.fr ?_))
  exact ret1 rfl ⟨rfl, hg.drop⟩
theorem mNumber_cell {g n : Nat} {t : Int} (i : Nat) (hi : i < n) (hn : n ≤ 4096) (ht : 0 ≤ t ∧ t ≤ 1000) (hc : w0.cell? ⟨pm, 0, none⟩ = some (.slice (some ⟨g, 0, none⟩) n n)) (hc2 : w0.cell? ⟨g, i * 7 + 1, none⟩ = some (.int .i64 t)) : Calls Tryz.prog 120 #[.pointer (some ⟨pm, 0, none⟩), .int .i64 i] w0 fun e w' => e = .returned (.int .i64 (i + n * t)) ∧ Goes w0 [] [] w' := by
  have hg := Goes.refl w0
  have c1 : ∀ {w' Fs}, Goes w0 [] Fs w' → w'.cell? ⟨pm, 0, none⟩ = some (.slice (some ⟨g, 0, none⟩) n n) := fun h => h.cellOld0 hc
  have c2 : ∀ {w' Fs}, Goes w0 [] Fs w' → w'.cell? ⟨g, i * 7 + 1, none⟩ = some (.int .i64 t) := fun h => h.cellOld0 hc2
  have p1 : ∀ {w' Fs}, Goes w0 [] Fs w' → Calls Tryz.prog 118 #[.pointer (some ⟨pm, 0, none⟩)] w' _ := fun h => mRoom_cell (h.cellOld0 hc)
  have hm : 0 ≤ (n : Int) * t ∧ (n : Int) * t ≤ 4096 * 1000 := ⟨Int.mul_nonneg (by omega) ht.1, Int.mul_le_mul (by omega) ht.2 ht.1 (by omega)⟩
  refine enter Tryz.func120 rfl (by simp only [Tryz.ntmps120, List.length_cons, List.length_nil, Nat.reduceAdd, Nat.reduceSub, List.replicate_succ, List.replicate_zero, List.cons_append, List.nil_append]; exact rfl) ?_
  repeat' (first | refine zN ?_ | (refine WC.quietG hg ?_; clear hg) | ((with_reducible refine WQ.nilG ?_); intro w hg) | (refine zB ?_; clear hg; intro b w hg; refine WO.fr ?_) | (refine zW ?_; clear hg; intro w hg; refine WO.fr ?_) | (refine op_pureB hg ?_; clear hg; intro w hg c hc; cases c <;> refine WO.fr ?_))
  exact ret1 rfl ⟨rfl, hg.drop⟩
set_option maxHeartbeats 1000000 in
theorem mfind_spec {fB : Frag} {T : Nat} (id : Int) (hT : T ≤ 1000) (hn : 0 < sl.length ∧ sl.length ≤ 4096) (hF : MarkF pm sl f) (hK : ∀ x ∈ sl, SltOK fB T x) (hO : ∀ p ∈ f, w0.heap[p.1]? = some p.2) : Calls Tryz.prog 122 #[.pointer (some ⟨pm, 0, none⟩), .int .i64 id] w0 fun e w' => (e = .returned (.int .i64 (-1)) ∨ ∃ i : Nat, e = .returned (.int .i64 i) ∧ i < sl.length ∧ (sl.getD i Slt.none).taken = true) ∧ Goes w0 [] [] w' := by
  obtain ⟨g, hc, hcs⟩ := hF.cells hO
  have hg := Goes.refl w0
  have c1 : ∀ {w' Fs}, Goes w0 [] Fs w' → w'.cell? ⟨pm, 0, none⟩ = some (.slice (some ⟨g, 0, none⟩) sl.length sl.length) := fun h => h.cellOld0 hc
  have p1 : ∀ {w' Fs}, Goes w0 [] Fs w' → Calls Tryz.prog 118 #[.pointer (some ⟨pm, 0, none⟩)] w' _ := fun h => mRoom_cell (h.cellOld0 hc)
  by_cases h0 : id < 0
  · refine enter Tryz.func122 rfl (by simp only [Tryz.ntmps122, List.length_cons, List.length_nil, Nat.reduceAdd, Nat.reduceSub, List.replicate_succ, List.replicate_zero, List.cons_append, List.nil_append]; exact rfl) ?_
    repeat' (first | refine zN ?_ | (refine WC.quietG hg ?_; clear hg) | ((with_reducible refine WQ.nilG ?_); intro w hg) | (refine zB ?_; clear hg; intro b w hg; refine WO.fr ?_) | (refine zW ?_; clear hg; intro w hg; refine WO.fr ?_) | (refine op_pureB hg ?_; clear hg; intro w hg c hc; cases c <;> refine WO.fr ?_))
    exact ret1 rfl ⟨.inl rfl, hg.drop⟩
  obtain ⟨k, rfl⟩ : ∃ k : Nat, id = k := ⟨id.toNat, by omega⟩
  have hkm := Nat.mod_lt k hn.1
  have hslot := hcs (k % sl.length) hkm
  have hx := hK _ (Slt.mem hkm)
  generalize hxe : sl.getD (k % sl.length) Slt.none = x at hslot hx
  have hJ : ((k : Int) % (sl.length : Int)) = ((k % sl.length : Nat) : Int) := rfl
  have r1 : ∀ {w' Fs}, Goes w0 [] Fs w' → Cells w' ⟨g, ((k : Int) % (sl.length : Int)).toNat * 7, none⟩ [.bool x.taken, .int .i64 x.times, .int .i64 x.low] := fun h => by rw [hJ, Int.toNat_natCast]; exact (h.cells0 hslot).part (j := 0) (n := 3) rfl
  have p2 : ∀ {w' Fs}, Goes w0 [] Fs w' → Calls Tryz.prog 119 #[.agg #[.bool x.taken, .int .i64 x.times, .int .i64 x.low]] w' _ := fun _ => mfree_spec _ _ _ _
  have p3 : ∀ {w' Fs}, Goes w0 [] Fs w' → Calls Tryz.prog 120 #[.pointer (some ⟨pm, 0, none⟩), .int .i64 ((k : Int) % (sl.length : Int))] w' _ := fun h => mNumber_cell (k % sl.length) hkm hn.2 ⟨hx.t.1, by have := hx.t.2; omega⟩ (h.cellOld0 hc) (h.cellOld0 (by have := hslot 1 _ rfl; rwa [add_lit] at this))
  cases htk : x.taken
  · rw [htk] at r1 p2
    refine enter Tryz.func122 rfl (by simp only [Tryz.ntmps122, List.length_cons, List.length_nil, Nat.reduceAdd, Nat.reduceSub, List.replicate_succ, List.replicate_zero, List.cons_append, List.nil_append]; exact rfl) ?_
    repeat' (first | refine zN ?_ | (refine WC.quietG hg ?_; clear hg) | ((with_reducible refine WQ.nilG ?_); intro w hg) | (refine zB ?_; clear hg; intro b w hg; refine WO.fr ?_) | (refine zW ?_; clear hg; intro w hg; refine WO.fr ?_) | (refine op_pureB hg ?_; clear hg; intro w hg c hc; cases c <;> refine WO.fr ?_))
    exact ret1 rfl ⟨.inl rfl, hg.drop⟩
  rw [htk] at r1 p2
  by_cases he : ((k % sl.length : Nat) : Int) + (sl.length : Nat) * x.times = (k : Nat)
  · refine enter Tryz.func122 rfl (by simp only [Tryz.ntmps122, List.length_cons, List.length_nil, Nat.reduceAdd, Nat.reduceSub, List.replicate_succ, List.replicate_zero, List.cons_append, List.nil_append]; exact rfl) ?_
    repeat' (first | refine zN ?_ | (refine WC.quietG hg ?_; clear hg) | ((with_reducible refine WQ.nilG ?_); intro w hg) | (refine zB ?_; clear hg; intro b w hg; refine WO.fr ?_) | (refine zW ?_; clear hg; intro w hg; refine WO.fr ?_) | (refine op_pureB hg ?_; clear hg; intro w hg c hc; cases c <;> refine WO.fr ?_))
    exact ret1 rfl ⟨.inr ⟨k % sl.length, by rw [← hJ]; rfl, hkm, by rw [hxe]; exact htk⟩, hg.drop⟩
  · refine enter Tryz.func122 rfl (by simp only [Tryz.ntmps122, List.length_cons, List.length_nil, Nat.reduceAdd, Nat.reduceSub, List.replicate_succ, List.replicate_zero, List.cons_append, List.nil_append]; exact rfl) ?_
    repeat' (first | refine zN ?_ | (refine WC.quietG hg ?_; clear hg) | ((with_reducible refine WQ.nilG ?_); intro w hg) | (refine zB ?_; clear hg; intro b w hg; refine WO.fr ?_) | (refine zW ?_; clear hg; intro w hg; refine WO.fr ?_) | (refine op_pureB hg ?_; clear hg; intro w hg c hc; cases c <;> refine WO.fr ?_))
    exact ret1 rfl ⟨.inl rfl, hg.drop⟩
end
end Go.Proofs.YtkdidefghbeabaaGreat
namespace Go.Proofs.YtkdidefghbeabaaGreat
open Go Go.RowKit
set_option maxRecDepth 10000
set_option linter.unusedSimpArgs false
set_option linter.unusedVariables false

section
variable {pm : Nat} {sl : List Slt} {f fB : Frag} {w0 : World} {T : Nat}
set_option maxHeartbeats 1000000 in
theorem mLow_spec (o : Int) (hn : sl.length ≤ 4096) (hF : MarkF pm sl f) (hO : ∀ p ∈ f, w0.heap[p.1]? = some p.2) : Calls Tryz.prog 124 #[.pointer (some ⟨pm, 0, none⟩), .int .i64 o] w0 fun e w' => (∃ n, e = .returned (.int .i64 n)) ∧ Goes w0 [] [] w' := by
  obtain ⟨g, hc, hcs⟩ := hF.cells hO
  have hg := Goes.refl w0
  have c1 : ∀ {w' Fs}, Goes w0 [] Fs w' → w'.cell? ⟨pm, 0, none⟩ = some (.slice (some ⟨g, 0, none⟩) sl.length sl.length) := fun h => h.cellOld0 hc
  have p1 : ∀ {w' Fs}, Goes w0 [] Fs w' → Calls Tryz.prog 118 #[.pointer (some ⟨pm, 0, none⟩)] w' _ := fun h => mRoom_cell (h.cellOld0 hc)
  refine enter Tryz.func124 rfl (by simp only [Tryz.ntmps124, List.length_cons, List.length_nil, Nat.reduceAdd, Nat.reduceSub, List.replicate_succ, List.replicate_zero, List.cons_append, List.nil_append]; exact rfl) ?_
  repeat' (first | refine zN ?_ | (refine WC.quietG hg ?_; clear hg) | ((with_reducible refine WQ.nilG ?_); intro w hg) | (refine zB ?_; clear hg; intro b w hg; refine WO.fr ?_) | (refine zW ?_; clear hg; intro w hg; refine WO.fr ?_) | (refine op_pureB hg ?_; clear hg; intro w hg c hc; cases c <;> refine WO.fr ?_))
  refine WC.loopS [1, 5, 8, 9, 10, 11, 12, 13, 14, 15, 16, 17, 18, 19, 20, 21, 22, 23, 24, 25, 26, 27, 28, 29, 30, 31, 32] (fun xs d w => ∃ (i : Nat) (o : Int), d = [] ∧ (gt xs 2) = .int .i64 i ∧ (gt xs 0) = .int .i64 o ∧ i ≤ sl.length ∧ Goes w0 [] [] w) (fun xs _ _ => sl.length - (intOf (gt xs 2)).toNat) ?_ ?_
  · exact ⟨0, o, rfl, rfl, rfl, Nat.zero_le _, hg⟩
  clear hg
  intro xs d w hlen hI K hK
  replace hlen := len_cons hlen
  obtain ⟨x1, xs, rfl, hlen⟩ := hlen
  replace hlen := len_cons hlen
  obtain ⟨x5, xs, rfl, hlen⟩ := hlen
  replace hlen := len_cons hlen
  obtain ⟨x8, xs, rfl, hlen⟩ := hlen
  replace hlen := len_cons hlen
  obtain ⟨x9, xs, rfl, hlen⟩ := hlen
  replace hlen := len_cons hlen
  obtain ⟨x10, xs, rfl, hlen⟩ := hlen
  replace hlen := len_cons hlen
  obtain ⟨x11, xs, rfl, hlen⟩ := hlen
  replace hlen := len_cons hlen
  obtain ⟨x12, xs, rfl, hlen⟩ := hlen
  replace hlen := len_cons hlen
  obtain ⟨x13, xs, rfl, hlen⟩ := hlen
  replace hlen := len_cons hlen
  obtain ⟨x14, xs, rfl, hlen⟩ := hlen
  replace hlen := len_cons hlen
  obtain ⟨x15, xs, rfl, hlen⟩ := hlen
  replace hlen := len_cons hlen
  obtain ⟨x16, xs, rfl, hlen⟩ := hlen
  replace hlen := len_cons hlen
  obtain ⟨x17, xs, rfl, hlen⟩ := hlen
  replace hlen := len_cons hlen
  obtain ⟨x18, xs, rfl, hlen⟩ := hlen
  replace hlen := len_cons hlen
  obtain ⟨x19, xs, rfl, hlen⟩ := hlen
  replace hlen := len_cons hlen
  obtain ⟨x20, xs, rfl, hlen⟩ := hlen
  replace hlen := len_cons hlen
  obtain ⟨x21, xs, rfl, hlen⟩ := hlen
  replace hlen := len_cons hlen
  obtain ⟨x22, xs, rfl, hlen⟩ := hlen
  replace hlen := len_cons hlen
  obtain ⟨x23, xs, rfl, hlen⟩ := hlen
  replace hlen := len_cons hlen
  obtain ⟨x24, xs, rfl, hlen⟩ := hlen
  replace hlen := len_cons hlen
  obtain ⟨x25, xs, rfl, hlen⟩ := hlen
  replace hlen := len_cons hlen
  obtain ⟨x26, xs, rfl, hlen⟩ := hlen
  replace hlen := len_cons hlen
  obtain ⟨x27, xs, rfl, hlen⟩ := hlen
  replace hlen := len_cons hlen
  obtain ⟨x28, xs, rfl, hlen⟩ := hlen
  replace hlen := len_cons hlen
  obtain ⟨x29, xs, rfl, hlen⟩ := hlen
  replace hlen := len_cons hlen
  obtain ⟨x30, xs, rfl, hlen⟩ := hlen
  replace hlen := len_cons hlen
  obtain ⟨x31, xs, rfl, hlen⟩ := hlen
  replace hlen := len_cons hlen
  obtain ⟨x32, xs, rfl, hlen⟩ := hlen
  replace hlen := len_nil hlen
  subst hlen
  refine WC.frame (by simp only [setAll, List.set_cons_succ, List.set_cons_zero]; exact rfl) ?_
  try simp only [gt] at hI
  obtain ⟨i, o, rfl, rfl, rfl, hi, hg⟩ := hI
  by_cases hlt : i < sl.length
  rotate_left
  · repeat' (first | refine zN ?_ | (refine WC.quietG hg ?_; clear hg) | ((with_reducible refine WQ.nilG ?_); intro w hg) | (refine zB ?_; clear hg; intro b w hg; refine WO.fr ?_) | (refine zW ?_; clear hg; intro w hg; refine WO.fr ?_) | (refine op_pureB hg ?_; clear hg; intro w hg c hc; cases c <;> refine WO.fr ?_))
    exact ret1 rfl ⟨⟨o, rfl⟩, hg.drop⟩
  have hslot := hcs i hlt
  generalize sl.getD i Slt.none = x at hslot
  have r1 : ∀ {w' Fs}, Goes w0 [] Fs w' → Cells w' ⟨g, i * 7, none⟩ [.bool x.taken, .int .i64 x.times, .int .i64 x.low] := fun h => (h.cells0 hslot).part (j := 0) (n := 3) rfl
  have c2 : ∀ {w' Fs}, Goes w0 [] Fs w' → w'.cell? ⟨g, i * 7 + 2, none⟩ = some (.int .i64 x.low) := fun h => h.cellOld0 (by have := hslot 2 _ rfl; rwa [add_lit] at this)
  have p2 : ∀ {w' Fs}, Goes w0 [] Fs w' → Calls Tryz.prog 119 #[.agg #[.bool x.taken, .int .i64 x.times, .int .i64 x.low]] w' _ := fun _ => mfree_spec _ _ _ _
  clear hslot
  cases htk : x.taken <;> rw [htk] at r1 p2
  all_goals
    repeat' (first | refine zN ?_ | (refine WC.quietG hg ?_; clear hg) | ((with_reducible refine WQ.nilG ?_); intro w hg) | (refine zB ?_; clear hg; intro b w hg; refine WO.fr ?_) | (refine zW ?_; clear hg; intro w hg; refine WO.fr ?_) | (refine op_pureB hg ?_; clear hg; intro w hg c hc; cases c <;> refine WO.fr ?_))
    with_reducible refine QX.norm ?_
    refine hK _ _ _ ?_ ?_ ?_
    · simp only [setAll, List.map_cons, List.map_nil, gt, List.set_cons_succ, List.set_cons_zero]
    all_goals try simp only [List.map_cons, List.map_nil, gt, intOf]
    · exact ⟨i + 1, _, trivial, rfl, rfl, by omega, hg⟩
    · omega
set_option maxHeartbeats 1000000 in
theorem mGet_spec (id : Int) (hT : T ≤ 1000) (hn : 0 < sl.length ∧ sl.length ≤ 4096) (hF : MarkF pm sl f) (hK : ∀ x ∈ sl, SltOK fB T x) (hO : ∀ p ∈ f, w0.heap[p.1]? = some p.2) : Calls Tryz.prog 91 #[.pointer (some ⟨pm, 0, none⟩), .int .i64 id] w0 fun e w' =>
    (∃ x y dp a n c er, e = .returned (.tuple #[.agg #[.int .i64 x, .int .i64 y, .int .i64 dp, .slice a n c], .int .i64 er]) ∧ (er = 0 ∨ er = 12) ∧ (er = 0 → TrOK fB dp (.slice a n c))) ∧ Goes w0 [] [] w' := by
  obtain ⟨g, hc, hcs⟩ := hF.cells hO
  have hg := Goes.refl w0
  have c1 : ∀ {w' Fs}, Goes w0 [] Fs w' → w'.cell? ⟨pm, 0, none⟩ = some (.slice (some ⟨g, 0, none⟩) sl.length sl.length) := fun h => h.cellOld0 hc
  refine enter Tryz.func91 rfl (by simp only [Tryz.ntmps91, List.length_cons, List.length_nil, Nat.reduceAdd, Nat.reduceSub, List.replicate_succ, List.replicate_zero, List.cons_append, List.nil_append]; exact rfl) ?_
  repeat' (first | refine zN ?_ | (refine WC.quietG hg ?_; clear hg) | ((with_reducible refine WQ.nilG ?_); intro w hg) | (refine zB ?_; clear hg; intro b w hg; refine WO.fr ?_) | (refine zW ?_; clear hg; intro w hg; refine WO.fr ?_) | (refine op_pureB hg ?_; clear hg; intro w hg c hc; cases c <;> refine WO.fr ?_))
  refine op_call (mfind_spec id hT hn hF hK (heap_goes hO hg.drop)) ?_
  rintro _ w2 ⟨rfl | ⟨i, rfl, hi, htk⟩, hg2⟩
  · replace hg := hg.call00 hg2
    clear hg2
    refine ⟨_, rfl, ?_⟩
    refine WO.fr ?_
    repeat' (first | refine zN ?_ | (refine WC.quietG hg ?_; clear hg) | ((with_reducible refine WQ.nilG ?_); intro w hg) | (refine zB ?_; clear hg; intro b w hg; refine WO.fr ?_) | (refine zW ?_; clear hg; intro w hg; refine WO.fr ?_) | (refine op_pureB hg ?_; clear hg; intro w hg c hc; cases c <;> refine WO.fr ?_))
    exact ret (.cells rfl (by first | with_reducible assumption | ((with_reducible apply Cells.ldn); (first | with_reducible assumption | ((with_reducible apply hg.cells0); with_reducible assumption) | with_reducible exact r1 hg | with_reducible exact r2 hg | with_reducible exact r3 hg | with_reducible exact r4 hg | with_reducible exact r5 hg | with_reducible exact t1 hs | with_reducible exact t2 hs | with_reducible exact t3 hs | with_reducible exact t4 hs); exact rfl) | ((with_reducible apply CellsAt.ldn (hg := hg)); (repeat (first | ((with_reducible apply CellsAt.whole); exact rfl) | ((with_reducible apply CellsAt.here) <;> first | with_reducible assumption | (simp only [List.drop_zero, List.drop_succ_cons, List.take_succ_cons, List.take_zero]; exact rfl) | exact rfl) | with_reducible apply CellsAt.more | with_reducible apply CellsAt.next)); done)) (.tmp rfl .nil)) ⟨⟨0, 0, 0, none, 0, 0, 12, rfl, .inr rfl, fun h => by omega⟩, hg.drop⟩
  · replace hg := hg.call00 hg2
    clear hg2
    refine ⟨_, rfl, ?_⟩
    refine WO.fr ?_
    have hslot := hcs i hi
    have hx := hK _ (Slt.mem hi)
    generalize sl.getD i Slt.none = x at hslot hx htk
    obtain ⟨a, n, c, hsp⟩ := hx.s
    have htr := hx.b htk
    rw [hsp] at htr
    have r1 : ∀ {w' Fs}, Goes w0 [] Fs w' → Cells w' ⟨g, i * 7 + 3, none⟩ [.int .i64 x.at', .int .i64 x.md, .int .i64 x.dp, .slice a n c] := fun h => by
      have h2 : Cells _ ⟨g, i * 7 + 3, none⟩ [.int .i64 x.at', .int .i64 x.md, .int .i64 x.dp, x.sp] := (h.cells0 hslot).part (j := 3) (n := 4) rfl
      rwa [hsp] at h2
    clear hslot
    repeat' (first | refine zN ?_ | (refine WC.quietG hg ?_; clear hg) | ((with_reducible refine WQ.nilG ?_); intro w hg) | (refine zB ?_; clear hg; intro b w hg; refine WO.fr ?_) | (refine zW ?_; clear hg; intro w hg; refine WO.fr ?_) | (refine op_pureB hg ?_; clear hg; intro w hg c hc; cases c <;> refine WO.fr ?_))
    exact ret (.cells rfl (by first | with_reducible assumption | ((with_reducible apply Cells.ldn); (first | with_reducible assumption | ((with_reducible apply hg.cells0); with_reducible assumption) | with_reducible exact r1 hg | with_reducible exact r2 hg | with_reducible exact r3 hg | with_reducible exact r4 hg | with_reducible exact r5 hg | with_reducible exact t1 hs | with_reducible exact t2 hs | with_reducible exact t3 hs | with_reducible exact t4 hs); exact rfl) | ((with_reducible apply CellsAt.ldn (hg := hg)); (repeat (first | ((with_reducible apply CellsAt.whole); exact rfl) | ((with_reducible apply CellsAt.here) <;> first | with_reducible assumption | (simp only [List.drop_zero, List.drop_succ_cons, List.take_succ_cons, List.take_zero]; exact rfl) | exact rfl) | with_reducible apply CellsAt.more | with_reducible apply CellsAt.next)); done)) (.tmp rfl .nil)) ⟨⟨x.at', x.md, x.dp, a, n, c, 0, rfl, .inl rfl, fun _ => htr⟩, hg.drop⟩

theorem MarkF.split {i : Nat} (hF : MarkF pm sl f) (hi : i < sl.length) : ∃ g A B, f = [(pm, .cells [.slice (some ⟨g, 0, none⟩) sl.length sl.length].toArray 118 (0, 0)), (g, .cells (List.toArray (A ++ ((sl.getD i Slt.none).enc ++ B))) 174 (0, 0))] ∧ A.length = i * 7 ∧
    ∀ x' : Slt, MarkF pm (sl.set i x') [(pm, .cells [.slice (some ⟨g, 0, none⟩) sl.length sl.length].toArray 118 (0, 0)), (g, .cells (List.toArray (A ++ (x'.enc ++ B))) 174 (0, 0))] := by
  obtain ⟨g, rfl⟩ := hF
  have hfl := flat_len 7 (sl.map Slt.enc) (fun r hr => by obtain ⟨x, _, rfl⟩ := List.mem_map.1 hr; rfl)
  simp only [List.length_map] at hfl
  obtain ⟨A, B, h1, h2, h3⟩ := rows_split (s := 7) (i := i) (m := sl.length) (rows := sl.map Slt.enc) (cur := (sl.map Slt.enc).flatten) (row := (sl.getD i Slt.none).enc) (by rw [← hfl]; exact List.take_length) (by simp) (fun r hr => by obtain ⟨x, _, rfl⟩ := List.mem_map.1 hr; rfl) (by rw [List.getElem?_map, Slt.get hi]; rfl)
  refine ⟨g, A, B, by rw [h1], h2, fun x' => ⟨g, ?_⟩⟩
  have h4 := h3 x'.enc rfl
  rw [List.take_of_length_le (by
    have := congrArg List.length h1
    simp only [List.length_append, hfl] at this ⊢
    have e : x'.enc.length = (sl.getD i Slt.none).enc.length := rfl
    omega)] at h4
  rw [List.length_set, List.map_set, h4]
set_option maxHeartbeats 4000000 in
theorem mSet_spec {W w : World} {Fs : List Frag} (x y dp low : Int) (a : Option Addr) (n c : Nat) (hT : T ≤ 1000) (hn : sl.length ≤ 4096) (hF : MarkF pm sl f) (hKs : ∀ x ∈ sl, SltOK fB T x) (htr : TrOK fB dp (.slice a n c)) (hg : Goes W [] (f :: Fs) w) :
    Calls Tryz.prog 89 #[.pointer (some ⟨pm, 0, none⟩), .agg #[.int .i64 x, .int .i64 y, .int .i64 dp, .slice a n c], .int .i64 low] w fun e w' => ∃ k er sl' f', e = .returned (.tuple #[.int .i64 k, .int .i64 er]) ∧ MarkF pm sl' f' ∧ sl'.length = sl.length ∧ (∀ x ∈ sl', SltOK fB T x) ∧ Goes W [] (f' :: Fs) w' := by
  have hF0 := hF
  refine enter Tryz.func89 rfl (by simp only [Tryz.ntmps89, List.length_cons, List.length_nil, Nat.reduceAdd, Nat.reduceSub, List.replicate_succ, List.replicate_zero, List.cons_append, List.nil_append]; exact rfl) ?_
  repeat' (first | refine zN ?_ | ((with_reducible refine WQ.nilG ?_); intro w hg) | (refine zB ?_; clear hg; intro b w hg; refine WO.fr ?_) | (refine zW ?_; clear hg; intro w hg; refine WO.fr ?_) | (refine op_pureB hg ?_; clear hg; intro w hg c hc; cases c <;> refine WO.fr ?_))
  refine op_pure hg ?_ (hc := by obtain ⟨g, hc, _⟩ := hF.cells (fun p hp => hg.own p (by simp [hp])); exact mRoom_cell hc)
  clear hg
  intro w hg
  refine WO.fr ?_
  repeat' (first | refine zN ?_ | ((with_reducible refine WQ.nilG ?_); intro w hg) | (refine zB ?_; clear hg; intro b w hg; refine WO.fr ?_) | (refine zW ?_; clear hg; intro w hg; refine WO.fr ?_) | (refine op_pureB hg ?_; clear hg; intro w hg c hc; cases c <;> refine WO.fr ?_))
  refine WC.loopS [6, 7, 8, 11, 12, 13, 14, 15, 16, 17, 18, 19, 20, 21, 22, 23, 24, 25, 26, 27, 28, 29, 30, 31, 32, 33, 34, 35, 36, 37, 38, 39, 40, 41, 42, 43, 44, 45, 46, 47, 48, 49, 50, 51] (fun xs d w => ∃ (i : Nat), d = [] ∧ (gt xs 3) = .int .i64 i ∧ i ≤ sl.length ∧ Goes W [] ([(b, .cells [.int .i64 x, .int .i64 y, .int .i64 dp, .slice a n c].toArray 75 (0, 0))] :: f :: Fs) w) (fun xs _ _ => sl.length - (intOf (gt xs 3)).toNat) ?_ ?_
  · exact ⟨0, rfl, rfl, Nat.zero_le _, hg⟩
  clear hg
  intro xs d w hlen hI K hK
  replace hlen := len_cons hlen
  obtain ⟨x6, xs, rfl, hlen⟩ := hlen
  replace hlen := len_cons hlen
  obtain ⟨x7, xs, rfl, hlen⟩ := hlen
  replace hlen := len_cons hlen
  obtain ⟨x8, xs, rfl, hlen⟩ := hlen
  replace hlen := len_cons hlen
  obtain ⟨x11, xs, rfl, hlen⟩ := hlen
  replace hlen := len_cons hlen
  obtain ⟨x12, xs, rfl, hlen⟩ := hlen
  replace hlen := len_cons hlen
  obtain ⟨x13, xs, rfl, hlen⟩ := hlen
  replace hlen := len_cons hlen
  obtain ⟨x14, xs, rfl, hlen⟩ := hlen
  replace hlen := len_cons hlen
  obtain ⟨x15, xs, rfl, hlen⟩ := hlen
  replace hlen := len_cons hlen
  obtain ⟨x16, xs, rfl, hlen⟩ := hlen
  replace hlen := len_cons hlen
  obtain ⟨x17, xs, rfl, hlen⟩ := hlen
  replace hlen := len_cons hlen
  obtain ⟨x18, xs, rfl, hlen⟩ := hlen
  replace hlen := len_cons hlen
  obtain ⟨x19, xs, rfl, hlen⟩ := hlen
  replace hlen := len_cons hlen
  obtain ⟨x20, xs, rfl, hlen⟩ := hlen
  replace hlen := len_cons hlen
  obtain ⟨x21, xs, rfl, hlen⟩ := hlen
  replace hlen := len_cons hlen
  obtain ⟨x22, xs, rfl, hlen⟩ := hlen
  replace hlen := len_cons hlen
  obtain ⟨x23, xs, rfl, hlen⟩ := hlen
  replace hlen := len_cons hlen
  obtain ⟨x24, xs, rfl, hlen⟩ := hlen
  replace hlen := len_cons hlen
  obtain ⟨x25, xs, rfl, hlen⟩ := hlen
  replace hlen := len_cons hlen
  obtain ⟨x26, xs, rfl, hlen⟩ := hlen
  replace hlen := len_cons hlen
  obtain ⟨x27, xs, rfl, hlen⟩ := hlen
  replace hlen := len_cons hlen
  obtain ⟨x28, xs, rfl, hlen⟩ := hlen
  replace hlen := len_cons hlen
  obtain ⟨x29, xs, rfl, hlen⟩ := hlen
  replace hlen := len_cons hlen
  obtain ⟨x30, xs, rfl, hlen⟩ := hlen
  replace hlen := len_cons hlen
  obtain ⟨x31, xs, rfl, hlen⟩ := hlen
  replace hlen := len_cons hlen
  obtain ⟨x32, xs, rfl, hlen⟩ := hlen
  replace hlen := len_cons hlen
  obtain ⟨x33, xs, rfl, hlen⟩ := hlen
  replace hlen := len_cons hlen
  obtain ⟨x34, xs, rfl, hlen⟩ := hlen
  replace hlen := len_cons hlen
  obtain ⟨x35, xs, rfl, hlen⟩ := hlen
  replace hlen := len_cons hlen
  obtain ⟨x36, xs, rfl, hlen⟩ := hlen
  replace hlen := len_cons hlen
  obtain ⟨x37, xs, rfl, hlen⟩ := hlen
  replace hlen := len_cons hlen
  obtain ⟨x38, xs, rfl, hlen⟩ := hlen
  replace hlen := len_cons hlen
  obtain ⟨x39, xs, rfl, hlen⟩ := hlen
  replace hlen := len_cons hlen
  obtain ⟨x40, xs, rfl, hlen⟩ := hlen
  replace hlen := len_cons hlen
  obtain ⟨x41, xs, rfl, hlen⟩ := hlen
  replace hlen := len_cons hlen
  obtain ⟨x42, xs, rfl, hlen⟩ := hlen
  replace hlen := len_cons hlen
  obtain ⟨x43, xs, rfl, hlen⟩ := hlen
  replace hlen := len_cons hlen
  obtain ⟨x44, xs, rfl, hlen⟩ := hlen
  replace hlen := len_cons hlen
  obtain ⟨x45, xs, rfl, hlen⟩ := hlen
  replace hlen := len_cons hlen
  obtain ⟨x46, xs, rfl, hlen⟩ := hlen
  replace hlen := len_cons hlen
  obtain ⟨x47, xs, rfl, hlen⟩ := hlen
  replace hlen := len_cons hlen
  obtain ⟨x48, xs, rfl, hlen⟩ := hlen
  replace hlen := len_cons hlen
  obtain ⟨x49, xs, rfl, hlen⟩ := hlen
  replace hlen := len_cons hlen
  obtain ⟨x50, xs, rfl, hlen⟩ := hlen
  replace hlen := len_cons hlen
  obtain ⟨x51, xs, rfl, hlen⟩ := hlen
  replace hlen := len_nil hlen
  subst hlen
  refine WC.frame (by simp only [setAll, List.set_cons_succ, List.set_cons_zero]; exact rfl) ?_
  try simp only [gt] at hI
  obtain ⟨i, rfl, rfl, hi, hg⟩ := hI
  by_cases hlt : i < sl.length
  rotate_left
  · repeat' (first | refine zN ?_ | ((with_reducible refine WQ.nilG ?_); intro w hg) | (refine zB ?_; clear hg; intro b w hg; refine WO.fr ?_) | (refine zW ?_; clear hg; intro w hg; refine WO.fr ?_) | (refine op_pureB hg ?_; clear hg; intro w hg c hc; cases c <;> refine WO.fr ?_))
    exact ret (.tmp rfl (.tmp rfl .nil)) ⟨0, 6, sl, f, rfl, hF0, rfl, hKs, (hg.front 1).tail1⟩
  obtain ⟨g, A, B, rfl, hA, hset⟩ := hF.split hlt
  have hx := hKs _ (Slt.mem hlt)
  generalize hse : sl.getD i Slt.none = s at hg hx
  have hAB : ∀ (row : List Value) (k : Nat) (v : Value), row[k]? = some v → (A ++ (row ++ B))[i * 7 + k]? = some v := fun row k v h => mid_get hA h
  have c1 : ∀ {w X}, Goes W [] (X :: [(pm, .cells [.slice (some ⟨g, 0, none⟩) sl.length sl.length].toArray 118 (0, 0)), (g, .cells (List.toArray (A ++ (s.enc ++ B))) 174 (0, 0))] :: Fs) w → w.cell? ⟨pm, 0, none⟩ = some (.slice (some ⟨g, 0, none⟩) sl.length sl.length) := fun h => heap_cell (h.own (pm, .cells [.slice (some ⟨g, 0, none⟩) sl.length sl.length].toArray 118 (0, 0)) (by simp)) rfl
  have r1 : ∀ {w X}, Goes W [] (X :: [(pm, .cells [.slice (some ⟨g, 0, none⟩) sl.length sl.length].toArray 118 (0, 0)), (g, .cells (List.toArray (A ++ (s.enc ++ B))) 174 (0, 0))] :: Fs) w → Cells w ⟨g, i * 7, none⟩ [.bool s.taken, .int .i64 s.times, .int .i64 s.low] := fun h => heap_cells (h.own (g, .cells (List.toArray (A ++ (s.enc ++ B))) 174 (0, 0)) (by simp)) (by
    have := mid_part (A := A) (B := B) (row := s.enc) (k := 0) (n := 3) (cs := [.bool s.taken, .int .i64 s.times, .int .i64 s.low]) hA rfl (by simp [Slt.enc])
    simpa using this)
  have p2 : ∀ {w' Fs}, Goes W [] Fs w' → Calls Tryz.prog 119 #[.agg #[.bool s.taken, .int .i64 s.times, .int .i64 s.low]] w' _ := fun _ => mfree_spec _ _ _ _
  cases htk : s.taken
  rotate_left
  · rw [htk] at r1 p2
    repeat' (first | refine zN ?_ | ((with_reducible refine WQ.nilG ?_); intro w hg) | (refine zB ?_; clear hg; intro b w hg; refine WO.fr ?_) | (refine zW ?_; clear hg; intro w hg; refine WO.fr ?_) | (refine op_pureB hg ?_; clear hg; intro w hg c hc; cases c <;> refine WO.fr ?_))
    clear c1 r1 p2
    with_reducible refine QX.norm ?_
    refine hK _ _ _ ?_ ?_ ?_
    · simp only [setAll, List.map_cons, List.map_nil, gt, List.set_cons_succ, List.set_cons_zero]
    all_goals try simp only [List.map_cons, List.map_nil, gt, intOf]
    · exact ⟨i + 1, trivial, rfl, by omega, by rw [hse]; exact hg⟩
    · omega
  rw [htk] at r1 p2
  repeat' (first | refine zN ?_ | ((with_reducible refine WQ.nilG ?_); intro w hg) | (refine zB ?_; clear hg; intro b w hg; refine WO.fr ?_) | (refine zW ?_; clear hg; intro w hg; refine WO.fr ?_) | (refine op_pureB hg ?_; clear hg; intro w hg c hc; cases c <;> refine WO.fr ?_))
  clear c1 r1 p2
  have s1 : ∀ {w : World}, (w.heap[pm]? = some (.cells [.slice (some ⟨g, 0, none⟩) sl.length sl.length].toArray 118 (0, 0)) ∧ w.heap[b]? = some (.cells [.int .i64 x, .int .i64 y, .int .i64 dp, .slice a n c].toArray 75 (0, 0))) → w.cell? ⟨pm, 0, none⟩ = some (.slice (some ⟨g, 0, none⟩) sl.length sl.length) := fun h => heap_cell h.1 rfl
  have t1 : ∀ {w : World}, (w.heap[pm]? = some (.cells [.slice (some ⟨g, 0, none⟩) sl.length sl.length].toArray 118 (0, 0)) ∧ w.heap[b]? = some (.cells [.int .i64 x, .int .i64 y, .int .i64 dp, .slice a n c].toArray 75 (0, 0))) → Cells w ⟨b, 0, none⟩ [.int .i64 x, .int .i64 y, .int .i64 dp, .slice a n c] := fun h => heap_cells h.2 rfl
  refine WC.drawn (fun w => w.heap[pm]? = some (.cells [.slice (some ⟨g, 0, none⟩) sl.length sl.length].toArray 118 (0, 0)) ∧ w.heap[b]? = some (.cells [.int .i64 x, .int .i64 y, .int .i64 dp, .slice a n c].toArray 75 (0, 0))) [] hg ?_
  clear hg
  intro w hg
  have hS : (fun w => w.heap[pm]? = some (.cells [.slice (some ⟨g, 0, none⟩) sl.length sl.length].toArray 118 (0, 0)) ∧ w.heap[b]? = some (.cells [.int .i64 x, .int .i64 y, .int .i64 dp, .slice a n c].toArray 75 (0, 0))) w := ⟨hg.own (pm, .cells [.slice (some ⟨g, 0, none⟩) sl.length sl.length].toArray 118 (0, 0)) (by simp), hg.own (b, .cells [.int .i64 x, .int .i64 y, .int .i64 dp, .slice a n c].toArray 75 (0, 0)) (by simp)⟩
  refine WA.passM 0 hS ?_
  refine WA.passM 1 hS ?_
  refine WA.passM 2 hS ?_
  refine WA.passM 4 hS ?_
  refine WA.passM 5 hS ?_
  refine WA.passM 6 hS ?_
  refine WA.passM 7 hS ?_
  refine WA.passM 9 hS ?_
  refine WA.passM 10 hS ?_
  refine WA.passM 11 hS ?_
  refine WA.passM 12 hS ?_
  refine WA.passM 14 hS ?_
  refine WA.passM 16 hS ?_
  refine WA.passM 3 hS ?_
  refine WA.passM 8 hS ?_
  refine WA.passM 13 hS ?_
  refine WA.passM 15 hS ?_
  refine WA.passM 17 hS ?_
  refine WA.passM 18 hS ?_
  refine WA.only 19 ?_
  refine op_storeA hg ?_ (hk := by simp [Slt.enc, hA]; omega)
  clear hg hS
  intro w hg
  rw [mid_over hA (by simp [Slt.enc])] at hg
  refine WO.fr ?_
  have hS : (fun w => w.heap[pm]? = some (.cells [.slice (some ⟨g, 0, none⟩) sl.length sl.length].toArray 118 (0, 0)) ∧ w.heap[b]? = some (.cells [.int .i64 x, .int .i64 y, .int .i64 dp, .slice a n c].toArray 75 (0, 0))) w := ⟨hg.own (pm, .cells [.slice (some ⟨g, 0, none⟩) sl.length sl.length].toArray 118 (0, 0)) (by simp), hg.own (b, .cells [.int .i64 x, .int .i64 y, .int .i64 dp, .slice a n c].toArray 75 (0, 0)) (by simp)⟩
  refine WO.nilA hS ?_
  refine WA.passM 20 hS ?_
  refine WA.passM 21 hS ?_
  refine WA.passM 22 hS ?_
  refine WA.only 23 ?_
  refine op_store hg ?_ (hk := by simp [over, Slt.enc, hA])
  clear hg hS
  intro w hg
  rw [mid_set hA (by simp [over, Slt.enc])] at hg
  refine WO.fr ?_
  have hS : (fun w => w.heap[pm]? = some (.cells [.slice (some ⟨g, 0, none⟩) sl.length sl.length].toArray 118 (0, 0)) ∧ w.heap[b]? = some (.cells [.int .i64 x, .int .i64 y, .int .i64 dp, .slice a n c].toArray 75 (0, 0))) w := ⟨hg.own (pm, .cells [.slice (some ⟨g, 0, none⟩) sl.length sl.length].toArray 118 (0, 0)) (by simp), hg.own (b, .cells [.int .i64 x, .int .i64 y, .int .i64 dp, .slice a n c].toArray 75 (0, 0)) (by simp)⟩
  refine WO.nilA hS ?_
  refine WA.passM 24 hS ?_
  refine WA.passM 25 hS ?_
  refine WA.passM 26 hS ?_
  refine WA.only 27 ?_
  refine op_store hg ?_ (hk := by simp [over, Slt.enc, hA])
  clear hg hS
  intro w hg
  have hm0 := fun (v : Value) (row : List Value) (h : 0 < row.length) => mid_set (A := A) (B := B) (k := 0) (v := v) hA h
  simp only [Nat.add_zero] at hm0
  rw [hm0 _ _ (by simp [over, Slt.enc]), show ((over s.enc 3 [.int .i64 x, .int .i64 y, .int .i64 dp, .slice a n c]).set 2 (.int .i64 low)).set 0 (.bool true) = (Slt.mk true s.times low x y dp (.slice a n c)).enc from rfl] at hg
  refine WO.fr ?_
  have hS : (fun w => w.heap[pm]? = some (.cells [.slice (some ⟨g, 0, none⟩) sl.length sl.length].toArray 118 (0, 0)) ∧ w.heap[b]? = some (.cells [.int .i64 x, .int .i64 y, .int .i64 dp, .slice a n c].toArray 75 (0, 0))) w := ⟨hg.own (pm, .cells [.slice (some ⟨g, 0, none⟩) sl.length sl.length].toArray 118 (0, 0)) (by simp), hg.own (b, .cells [.int .i64 x, .int .i64 y, .int .i64 dp, .slice a n c].toArray 75 (0, 0)) (by simp)⟩
  refine WO.nilA hS ?_
  refine WA.nil ?_
  clear hS s1 t1
  have hset2 := hset (Slt.mk true s.times low x y dp (.slice a n c))
  generalize hX : Slt.mk true s.times low x y dp (.slice a n c) = X at hg hset2
  have c1 : ∀ {w Y}, Goes W [] (Y :: [(pm, .cells [.slice (some ⟨g, 0, none⟩) sl.length sl.length].toArray 118 (0, 0)), (g, .cells (List.toArray (A ++ (X.enc ++ B))) 174 (0, 0))] :: Fs) w → w.cell? ⟨pm, 0, none⟩ = some (.slice (some ⟨g, 0, none⟩) sl.length sl.length) := fun h => heap_cell (h.own (pm, .cells [.slice (some ⟨g, 0, none⟩) sl.length sl.length].toArray 118 (0, 0)) (by simp)) rfl
  have p1 : ∀ {w Y}, Goes W [] (Y :: [(pm, .cells [.slice (some ⟨g, 0, none⟩) sl.length sl.length].toArray 118 (0, 0)), (g, .cells (List.toArray (A ++ (X.enc ++ B))) 174 (0, 0))] :: Fs) w → Calls Tryz.prog 120 #[.pointer (some ⟨pm, 0, none⟩), .int .i64 i] w _ := fun h => mNumber_cell (t := X.times) i hlt hn (by rw [← hX]; have := hx.t; dsimp only; omega) (c1 h) (heap_cell (h.own (g, .cells (List.toArray (A ++ (X.enc ++ B))) 174 (0, 0)) (by simp)) (mid_get hA (row := X.enc) rfl))
  repeat' (first | refine zN ?_ | ((with_reducible refine WQ.nilG ?_); intro w hg) | (refine zB ?_; clear hg; intro b w hg; refine WO.fr ?_) | (refine zW ?_; clear hg; intro w hg; refine WO.fr ?_) | (refine op_pureB hg ?_; clear hg; intro w hg c hc; cases c <;> refine WO.fr ?_))
  refine ret (.tmp rfl (.tmp rfl .nil)) ⟨_, 0, sl.set i X, _, rfl, hset2, List.length_set, fun y hy => ?_, (hg.front 1).tail1⟩
  rcases List.mem_or_eq_of_mem_set hy with h | rfl
  · exact hKs y h
  · rw [← hX]; exact ⟨hx.t, ⟨a, n, c, rfl⟩, fun _ => htr⟩
set_option maxHeartbeats 4000000 in
theorem mRelease_spec {W w : World} {Fs : List Frag} (id : Int) (hT : T + 1 ≤ 1000) (hn : 0 < sl.length ∧ sl.length ≤ 4096) (hF : MarkF pm sl f) (hKs : ∀ x ∈ sl, SltOK fB T x) (hg : Goes W [] (f :: Fs) w) :
    Calls Tryz.prog 92 #[.pointer (some ⟨pm, 0, none⟩), .int .i64 id] w fun e w' => ∃ er sl' f', e = .returned (.int .i64 er) ∧ MarkF pm sl' f' ∧ sl'.length = sl.length ∧ (∀ x ∈ sl', SltOK fB (T + 1) x) ∧ Goes W [] (f' :: Fs) w' := by
  have hup : ∀ x ∈ sl, SltOK fB (T + 1) x := fun x hx => (hKs x hx).mono (Sub.refl _) (by omega)
  refine enter Tryz.func92 rfl (by simp only [Tryz.ntmps92, List.length_cons, List.length_nil, Nat.reduceAdd, Nat.reduceSub, List.replicate_succ, List.replicate_zero, List.cons_append, List.nil_append]; exact rfl) ?_
  repeat' (first | refine zN ?_ | ((with_reducible refine WQ.nilG ?_); intro w hg) | (refine zB ?_; clear hg; intro b w hg; refine WO.fr ?_) | (refine zW ?_; clear hg; intro w hg; refine WO.fr ?_) | (refine op_pureB hg ?_; clear hg; intro w hg c hc; cases c <;> refine WO.fr ?_))
  refine op_call (mfind_spec id (by omega) hn hF hKs (fun p hp => hg.own p (by simp [hp]))) ?_
  rintro _ w2 ⟨rfl | ⟨i, rfl, hi, htk⟩, hg2⟩
  · replace hg := hg.call00 hg2
    clear hg2
    refine ⟨_, rfl, ?_⟩
    refine WO.fr ?_
    repeat' (first | refine zN ?_ | ((with_reducible refine WQ.nilG ?_); intro w hg) | (refine zB ?_; clear hg; intro b w hg; refine WO.fr ?_) | (refine zW ?_; clear hg; intro w hg; refine WO.fr ?_) | (refine op_pureB hg ?_; clear hg; intro w hg c hc; cases c <;> refine WO.fr ?_))
    exact ret1 rfl ⟨12, sl, f, rfl, hF, rfl, hup, hg⟩
  replace hg := hg.call00 hg2
  clear hg2
  refine ⟨_, rfl, ?_⟩
  refine WO.fr ?_
  obtain ⟨g, A, B, rfl, hA, hset⟩ := hF.split hi
  have hx := hKs _ (Slt.mem hi)
  generalize hse : sl.getD i Slt.none = s at hg hx
  have hxt := hx.t
  repeat' (first | refine zN ?_ | ((with_reducible refine WQ.nilG ?_); intro w hg) | (refine zB ?_; clear hg; intro b w hg; refine WO.fr ?_) | (refine zW ?_; clear hg; intro w hg; refine WO.fr ?_) | (refine op_pureB hg ?_; clear hg; intro w hg c hc; cases c <;> refine WO.fr ?_))
  have s1 : ∀ {w : World}, (w.heap[pm]? = some (.cells [.slice (some ⟨g, 0, none⟩) sl.length sl.length].toArray 118 (0, 0)) ∧ w.heap[g]? = some (.cells (List.toArray (A ++ (s.enc ++ B))) 174 (0, 0))) → w.cell? ⟨pm, 0, none⟩ = some (.slice (some ⟨g, 0, none⟩) sl.length sl.length) := fun h => heap_cell h.1 rfl
  have s2 : ∀ {w : World}, (w.heap[pm]? = some (.cells [.slice (some ⟨g, 0, none⟩) sl.length sl.length].toArray 118 (0, 0)) ∧ w.heap[g]? = some (.cells (List.toArray (A ++ (s.enc ++ B))) 174 (0, 0))) → w.cell? ⟨g, i * 7 + 1, none⟩ = some (.int .i64 s.times) := fun h => heap_cell h.2 (mid_get hA (row := s.enc) rfl)
  refine WC.drawn (fun w => w.heap[pm]? = some (.cells [.slice (some ⟨g, 0, none⟩) sl.length sl.length].toArray 118 (0, 0)) ∧ w.heap[g]? = some (.cells (List.toArray (A ++ (s.enc ++ B))) 174 (0, 0))) [18] hg ?_
  clear hg
  intro w hg
  have hS : (fun w => w.heap[pm]? = some (.cells [.slice (some ⟨g, 0, none⟩) sl.length sl.length].toArray 118 (0, 0)) ∧ w.heap[g]? = some (.cells (List.toArray (A ++ (s.enc ++ B))) 174 (0, 0))) w := ⟨hg.own (pm, .cells [.slice (some ⟨g, 0, none⟩) sl.length sl.length].toArray 118 (0, 0)) (by simp), hg.own (g, .cells (List.toArray (A ++ (s.enc ++ B))) 174 (0, 0)) (by simp)⟩
  refine WA.passM 0 hS ?_
  refine WA.passM 1 hS ?_
  refine WA.passM 2 hS ?_
  refine WA.passM 4 hS ?_
  refine WA.passM 5 hS ?_
  refine WA.passM 6 hS ?_
  refine WA.passM 7 hS ?_
  refine WA.passM 9 hS ?_
  refine WA.passM 3 hS ?_
  refine WA.passM 8 hS ?_
  refine WA.passM 10 hS ?_
  refine WA.passM 11 hS ?_
  refine WA.passM 12 hS ?_
  refine WA.passM 13 hS ?_
  refine WA.passM 14 hS ?_
  refine WA.passM 15 hS ?_
  refine WA.passM 16 hS ?_
  refine WA.passM 17 hS ?_
  refine WA.only 18 ?_
  refine op_storeA hg ?_ (hk := by simp [Slt.enc, hA])
  clear hg hS
  intro w hg
  have hm0 := fun (cs row : List Value) (h : 0 + cs.length ≤ row.length) => mid_over (A := A) (B := B) (k := 0) hA h
  simp only [Nat.add_zero, Nat.zero_add] at hm0
  rw [hm0 _ _ (by simp [Slt.enc])] at hg
  refine WO.fr ?_
  refine WO.nilL ?_
  refine WA.nil ?_
  repeat' (first | refine zN ?_ | ((with_reducible refine WQ.nilG ?_); intro w hg) | (refine zB ?_; clear hg; intro b w hg; refine WO.fr ?_) | (refine zW ?_; clear hg; intro w hg; refine WO.fr ?_) | (refine op_pureB hg ?_; clear hg; intro w hg c hc; cases c <;> refine WO.fr ?_))
  refine ret1 rfl ⟨0, sl.set i ⟨false, s.times + 1, 0, 0, 0, 0, .slice none 0 0⟩, _, rfl, hset _, List.length_set, fun y hy => ?_, hg⟩
  rcases List.mem_or_eq_of_mem_set hy with h | rfl
  · exact hup y h
  · exact ⟨⟨by dsimp only; omega, by dsimp only; omega⟩, ⟨_, _, _, rfl⟩, fun h => by cases h⟩
end
end Go.Proofs.YtkdidefghbeabaaGreat
