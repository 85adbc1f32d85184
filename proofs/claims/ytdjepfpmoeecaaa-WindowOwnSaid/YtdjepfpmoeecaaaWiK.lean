/- The rest of a region behind its one call; slices of strings. -/
import Derived.Test.YtdjepfpmoeecaaaWiV
import Derived.Laws.Strings2
namespace Go.Proofs.Ytdjepfpmoeecaaa
open Go Go.RowKit
set_option maxRecDepth 10000
set_option linter.unusedSimpArgs false
set_option linter.unusedVariables false

theorem wpAnyS_of_quiet {P : Program} {C S : World → Prop} {late : List Nat} {ops : Array Oper} {md : Region.Mode} {K : Act → Prop} {Q' : Exit → Act → World → Prop} (hnd : noDefer ops = true) (hCS : ∀ w, C w → S w) (hQ : ∀ a w, C w → K a → Q' .normal a w) : ∀ (fuel : Nat) (listed : Array Bool) (a : Act) (w : World), C w →
    wpAnyQ P md ops C K fuel listed a → wpAnyS (Fr none) 0 P md ops Q' S late fuel listed a w
  | 0, _, _, _, hw, h => ⟨h.1, hQ _ _ hw h.2⟩
  | fuel + 1, _, _, _, hw, h => ⟨fun e => hQ _ _ hw (h.1 e), fun i hi => wpOpIn_of_qOp hnd hw (fun a w' hw' h' => ⟨fun _ => hCS _ hw', wpAnyS_of_quiet hnd hCS hQ fuel _ a w' hw' h'⟩) (h.2 i hi)⟩

section
variable {P : Program} {Q : Exit → Act → World → Prop} {S : World → Prop} {late : List Nat} {l l' : List Value} {d : List Deferred} {w w0 : World} {M : List Nat} {Fs : List Frag} {fuel : Nat} {listed : List Bool} {os : List Oper}
/-- Behind a region's calls: the rest only reads. -/
theorem WA.rest (k : Nat) (hg : Goes w0 M Fs w) (hS : ∀ w, Goes w0 M Fs w → S w) (h : WQ P (fun w => Goes w0 M Fs w) os.toArray (fun a => ∀ w', Goes w0 M Fs w' → Q .normal a w') (os.drop k) l d)
    (hn : (os.drop k).length = fuel := by exact rfl) (hs : Region.noSelect os.toArray = true := by kernel_rfl) (hB : Region.lexFrom .any os.toArray fuel k listed.toArray = true := by kernel_rfl) (hnd : noDefer os.toArray = true := by kernel_rfl) : WA P os.toArray Q S late fuel listed l d w := by
  subst hn
  refine ⟨wpAnyS_of_quiet (C := fun w => Goes w0 M Fs w) hnd hS (K := fun a => ∀ w', Goes w0 M Fs w' → Q .normal a w') (fun a w' hw' h => ⟨rfl, h w' hw'⟩) _ _ _ _ hg ?_⟩
  exact wpAnyQ_lex (C := fun w => Goes w0 M Fs w) (md := .any) hs (os.drop k) k _ (St l d) (by simp) hB h.out
end

section
variable {P : Program} {Q : Exit → Act → World → Prop} {S : World → Prop} {late : List Nat} {l l' : List Value} {d : List Deferred} {w w0 : World} {M : List Nat} {Fs : List Frag} {fuel : Nat} {listed listed' : List Bool}
variable {ops : Array Oper} {os : List Oper} {dst dst2 : Option Tmp} {ty ty2 : TypeId} {pos pos2 : String} {af af2 : Array Edge} {v : Value} {op op2 : Op}
theorem WA.step1 {i : Nat} (h : WO P none ops (KA P ops Q S late i fuel (listed.set i true)) [⟨dst, op, ty, pos, af, none⟩] l d w) (ho : ops[i]? = some ⟨dst, op, ty, pos, af, none⟩) :
    wpOpIn (Fr none) 0 P ops (NQ Q) i (fun a' w' => (late.contains i = false → S w') ∧ wpAnyS (Fr none) 0 P .any ops (NQ Q) S late fuel (listed.toArray.setIfInBounds i true) a' w') (St l d) w := by
  have h1 := h.out
  unfold wpOpIn
  rw [ho]
  simp only [wpListIn, Region.wanted, if_true] at h1 ⊢
  have h2 := wpIn_noPanic (N := fun a w => (late.contains i = false → S w) ∧ wpAnyS (Fr none) 0 P .any ops (NQ Q) S late fuel (listed.set i true).toArray a w) (Q := NQ Q) h1
  simpa using h2
/-- Two are ready. -/
theorem WA.two (i j : Nat) (h1 : WO P none ops (KA P ops Q S late i fuel (listed.set i true)) [⟨dst, op, ty, pos, af, none⟩] l d w) (h2 : WO P none ops (KA P ops Q S late j fuel (listed.set j true)) [⟨dst2, op2, ty2, pos2, af2, none⟩] l d w)
    (ho1 : ops[i]? = some ⟨dst, op, ty, pos, af, none⟩ := by exact rfl) (ho2 : ops[j]? = some ⟨dst2, op2, ty2, pos2, af2, none⟩ := by exact rfl) (hr : Region.ready .any ops listed.toArray = [i, j] := by kernel_rfl) : WA P ops Q S late (fuel + 1) listed l d w := by
  refine ⟨And.intro (fun h0 => by rw [hr] at h0; cases h0) ?_⟩
  intro k hk
  rw [hr] at hk
  rcases List.mem_cons.1 hk with rfl | hk
  · exact WA.step1 h1 ho1
  · obtain rfl := List.mem_singleton.1 hk
    exact WA.step1 h2 ho2
end
theorem Goes.fin4 {w0 w : World} {M : List Nat} {a b c d e : Frag} {Fs : List Frag} (h : Goes w0 M (c :: a :: b :: d :: e :: Fs) w) : Goes w0 M [c, a ++ b, d, e] w := h.sub (by simp)
theorem x_strLH {P : Program} {l : List Value} {ty t : TypeId} {w : World} {x lo hi : Operand} {s : List UInt8} {k k' : IntKind} {i j : Nat} [H : Und P t .string] (hx : ev l x = .string (str s)) (hl : ev l lo = .int k i) (hh : ev l hi = .int k' j) (h0 : i ≤ j) (h1 : j ≤ s.length) : Runs P l (.slice t x (some lo) (some hi) none) ty w (.string (str ((s.take j).drop i))) := by
  refine ⟨by simp, fun d dst pos af => ?_⟩
  have e : (str s).extract i j = str ((s.take j).drop i) := by
    apply str_ext
    rw [str_list]
    simp only [ByteArray.data_extract, str, Array.toList_extract, List.extract_eq_take_drop]
    rw [List.drop_take]
  have hz := str_size s
  have := run_slice_string (P := P) w t (str s) k k' i j H.out (by omega) (by omega) (by omega)
  rw [Int.toNat_natCast, Int.toNat_natCast, e] at this
  simp [execOp, St_eval, hx, hl, hh, run_sliceAt_string _ _ _ _ _ _ H.out, this]
theorem op_strLH {P : Program} {r : Option Nat} {Q : Exit → Go.Act → World → Prop} {l : List Value} {d : List Deferred} {w : World} {ops : Array Oper} {os : List Oper} {dst : Option Tmp} {ty : TypeId} {pos : String} {af : Array Edge} {t : TypeId} {x lo hi : Operand} {s : List UInt8} {k k' : IntKind} {i' j' : Int} {i j : Nat} [H : Und P t .string]
    (h : WO P r ops Q os (put l dst (.string (str ((s.take j).drop i)))) d w) (ei : i' = i) (ej : j' = j) (hx : ev l x = .string (str s) := by first | (simp only [ev, gt, put, List.set_cons_succ, List.set_cons_zero, Nat.zero_add, Nat.add_zero, Nat.mul_one, Nat.reduceAdd, Nat.reduceMul, Int.toNat_natCast, Int.reduceToNat, List.map_cons, List.map_nil, List.cons_append, List.nil_append]; exact rfl) | simp only [ev, gt, put, List.set_cons_succ, List.set_cons_zero, Nat.zero_add, Nat.add_zero, Nat.mul_one, Nat.reduceAdd, Nat.reduceMul, Int.toNat_natCast, Int.reduceToNat, List.map_cons, List.map_nil, List.cons_append, List.nil_append]) (hl : ev l lo = .int k i' := by first | (simp only [ev, gt, put, List.set_cons_succ, List.set_cons_zero, Nat.zero_add, Nat.add_zero, Nat.mul_one, Nat.reduceAdd, Nat.reduceMul, Int.toNat_natCast, Int.reduceToNat, List.map_cons, List.map_nil, List.cons_append, List.nil_append]; exact rfl) | simp only [ev, gt, put, List.set_cons_succ, List.set_cons_zero, Nat.zero_add, Nat.add_zero, Nat.mul_one, Nat.reduceAdd, Nat.reduceMul, Int.toNat_natCast, Int.reduceToNat, List.map_cons, List.map_nil, List.cons_append, List.nil_append]) (hh : ev l hi = .int k' j' := by first | (simp only [ev, gt, put, List.set_cons_succ, List.set_cons_zero, Nat.zero_add, Nat.add_zero, Nat.mul_one, Nat.reduceAdd, Nat.reduceMul, Int.toNat_natCast, Int.reduceToNat, List.map_cons, List.map_nil, List.cons_append, List.nil_append]; exact rfl) | simp only [ev, gt, put, List.set_cons_succ, List.set_cons_zero, Nat.zero_add, Nat.add_zero, Nat.mul_one, Nat.reduceAdd, Nat.reduceMul, Int.toNat_natCast, Int.reduceToNat, List.map_cons, List.map_nil, List.cons_append, List.nil_append]) (h0 : i ≤ j := by omega) (h1 : j ≤ s.length := by omega) : WO P r ops Q (⟨dst, .slice t x (some lo) (some hi) none, ty, pos, af, none⟩ :: os) l d w := by
  subst ei ej
  have hr := x_strLH (P := P) (t := t) (ty := ty) (w := w) hx hl hh h0 h1
  exact WO.val hr.nd (hr.out _ _ _ _) rfl h
theorem eqL_tokI (s t : Tok) : eqL [.int, .int, .int, .int, .int, .int] s.enc t.enc = some (decide (s = t)) := by
  obtain ⟨a1, a2, a3, a4, a5, a6⟩ := s
  obtain ⟨b1, b2, b3, b4, b5, b6⟩ := t
  simp [eqL, eqC, Tok.enc, Bool.decide_and]
  rfl
theorem light_memK {its : List WAct} (h : wlight its = true) : (∀ x ∈ its, x.text.length ≤ 100) ∧ its.length ≤ 60 := by
  unfold wlight at h
  rw [Bool.and_eq_true] at h
  exact ⟨fun x hx => of_decide_eq_true (List.all_eq_true.1 h.1 x hx), of_decide_eq_true h.2⟩
theorem docZeroK {pm : Nat} {p : Prm} : DocF pm p WS.zero [(pm, .cells [.int .i64 p.bytes, .int .i64 p.trail, .int .i64 p.marks, .int .i64 p.ahead, .int .i64 p.tickets, .int .i64 p.retries, .int .i64 p.step, .string (str []), .int .i64 0, .int .i64 0, .slice none 0 0].toArray 71 (0, 0))] := ⟨none, 0, [], rfl, Rd.nil⟩
theorem Goes.head3K {w0 w : World} {M : List Nat} {a b c : Frag} {Fs : List Frag} (h : Goes w0 M (a :: b :: c :: Fs) w) : Goes w0 M [a, b, c] w := h.sub (by simp)
theorem getV_eq (o : Option CE) : ∃ (tk : Tok) (bb : Bool), getV o = .tuple #[.agg tk.enc.toArray, .bool bb] := by
  cases o with
  | none => exact ⟨_, _, rfl⟩
  | some e => exact ⟨_, _, rfl⟩
end Go.Proofs.Ytdjepfpmoeecaaa
