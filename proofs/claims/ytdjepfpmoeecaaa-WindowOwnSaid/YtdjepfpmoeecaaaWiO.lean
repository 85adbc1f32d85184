/- Bytes: strings as lists; make, copy, append and conversion of bytes. -/
import Derived.Test.YtdjepfpmoeecaaaIfc
import Derived.Lib.BufferWrite
import Derived.Laws.CopyRow
import Derived.Laws.BytesString
import Derived.Laws.MakeOwn
import Derived.Laws.Slices
namespace Go.Proofs.Ytdjepfpmoeecaaa
open Go Go.RowKit
set_option linter.unusedSimpArgs false
set_option linter.unusedVariables false

def str (l : List UInt8) : ByteArray := ⟨l.toArray⟩
theorem str_data (s : ByteArray) : str s.data.toList = s := rfl
theorem str_size (l : List UInt8) : (str l).size = l.length := by simp [str, ByteArray.size]
theorem str_list (l : List UInt8) : (str l).data.toList = l := rfl
theorem str_ext {a b : ByteArray} (h : a.data.toList = b.data.toList) : a = b := by
  obtain ⟨a⟩ := a; obtain ⟨b⟩ := b
  congr 1
  exact Array.ext' h
theorem str_take (l : List UInt8) (k : Nat) : (str l).extract 0 k = str (l.take k) := by
  apply str_ext
  rw [str_list]
  simp [ByteArray.data_extract, str]
theorem str_drop (l : List UInt8) (k : Nat) : (str l).extract k l.length = str (l.drop k) := by
  apply str_ext
  rw [str_list]
  simp only [ByteArray.data_extract, str, Array.toList_extract, List.extract_eq_take_drop]
  exact List.take_of_length_le (by simp)
theorem str_app (a b : List UInt8) : str a ++ str b = str (a ++ b) := by
  apply str_ext
  rw [str_list]
  simp [str]
theorem str_inj {a b : List UInt8} (h : str a = str b) : a = b := congrArg (fun s : ByteArray => s.data.toList) h
theorem str_beq (a b : List UInt8) : (str a == str b) = decide (a = b) := by
  rw [Bool.eq_iff_iff, MapKept.bytes_beq, decide_eq_true_iff]
  exact ⟨str_inj, fun h => h ▸ rfl⟩

def bcells (l : List UInt8) : List Value := l.map fun b => Value.int .u8 (b.toNat : Int)
theorem bcells_len (l : List UInt8) : (bcells l).length = l.length := by simp [bcells]
theorem bcells_get {l : List UInt8} {i : Nat} {b : UInt8} (h : l[i]? = some b) : (bcells l)[i]? = some (.int .u8 (b.toNat : Int)) := by simp [bcells, h]

section
variable {P : Program} {r : Option Nat} {Q : Exit → Act → World → Prop} {l l' : List Value} {d : List Deferred} {w w' w0 : World} {M : List Nat} {Fs Fs' : List Frag}
variable {ops : Array Oper} {os : List Oper} {dst : Option Tmp} {ty : TypeId} {pos : String} {af : Array Edge} {v : Value}

/-- A string's beginning, its end. -/
theorem op_strH {t : TypeId} {x hi : Operand} {s : List UInt8} {k : IntKind} {j : Nat} [H : Und P t .string] (h : WO P r ops Q os (put l dst (.string (str (s.take j)))) d w) (hx : ev l x = .string (str s) := by first | (simp only [ev, gt, put, List.set_cons_succ, List.set_cons_zero, Nat.zero_add, Nat.add_zero, Nat.mul_one, Nat.reduceAdd, Nat.reduceMul, Int.toNat_natCast, Int.reduceToNat, List.map_cons, List.map_nil, List.cons_append, List.nil_append]; exact rfl) | simp only [ev, gt, put, List.set_cons_succ, List.set_cons_zero, Nat.zero_add, Nat.add_zero, Nat.mul_one, Nat.reduceAdd, Nat.reduceMul, Int.toNat_natCast, Int.reduceToNat, List.map_cons, List.map_nil, List.cons_append, List.nil_append]) (hh : ev l hi = .int k j := by first | (simp only [ev, gt, put, List.set_cons_succ, List.set_cons_zero, Nat.zero_add, Nat.add_zero, Nat.mul_one, Nat.reduceAdd, Nat.reduceMul, Int.toNat_natCast, Int.reduceToNat, List.map_cons, List.map_nil, List.cons_append, List.nil_append]; exact rfl) | simp only [ev, gt, put, List.set_cons_succ, List.set_cons_zero, Nat.zero_add, Nat.add_zero, Nat.mul_one, Nat.reduceAdd, Nat.reduceMul, Int.toNat_natCast, Int.reduceToNat, List.map_cons, List.map_nil, List.cons_append, List.nil_append]) (h0 : j ≤ s.length := by omega) :
    WO P r ops Q (⟨dst, .slice t x none (some hi) none, ty, pos, af, none⟩ :: os) l d w := by
  refine WO.val (by simp) ?_ rfl h
  have := run_slice_string_h (P := P) w t (str s) H.out k j (by omega) (by rw [str_size]; omega)
  rw [Int.toNat_natCast, str_take] at this
  simp [execOp, St_eval, hx, hh, run_sliceAt_string _ _ _ _ _ _ H.out, this]
theorem op_strL {t : TypeId} {x lo : Operand} {s : List UInt8} {k : IntKind} {j : Nat} [H : Und P t .string] (h : WO P r ops Q os (put l dst (.string (str (s.drop j)))) d w) (hx : ev l x = .string (str s) := by first | (simp only [ev, gt, put, List.set_cons_succ, List.set_cons_zero, Nat.zero_add, Nat.add_zero, Nat.mul_one, Nat.reduceAdd, Nat.reduceMul, Int.toNat_natCast, Int.reduceToNat, List.map_cons, List.map_nil, List.cons_append, List.nil_append]; exact rfl) | simp only [ev, gt, put, List.set_cons_succ, List.set_cons_zero, Nat.zero_add, Nat.add_zero, Nat.mul_one, Nat.reduceAdd, Nat.reduceMul, Int.toNat_natCast, Int.reduceToNat, List.map_cons, List.map_nil, List.cons_append, List.nil_append]) (hl : ev l lo = .int k j := by first | (simp only [ev, gt, put, List.set_cons_succ, List.set_cons_zero, Nat.zero_add, Nat.add_zero, Nat.mul_one, Nat.reduceAdd, Nat.reduceMul, Int.toNat_natCast, Int.reduceToNat, List.map_cons, List.map_nil, List.cons_append, List.nil_append]; exact rfl) | simp only [ev, gt, put, List.set_cons_succ, List.set_cons_zero, Nat.zero_add, Nat.add_zero, Nat.mul_one, Nat.reduceAdd, Nat.reduceMul, Int.toNat_natCast, Int.reduceToNat, List.map_cons, List.map_nil, List.cons_append, List.nil_append]) (h0 : j ≤ s.length := by omega) :
    WO P r ops Q (⟨dst, .slice t x (some lo) none none, ty, pos, af, none⟩ :: os) l d w := by
  refine WO.val (by simp) ?_ rfl h
  have := run_slice_string_l (P := P) w t (str s) H.out k j (by omega) (by rw [str_size]; omega)
  rw [Int.toNat_natCast, str_size, str_drop] at this
  simp [execOp, St_eval, hx, hl, run_sliceAt_string _ _ _ _ _ _ H.out, this]

theorem made_one (z : Value) (n : Nat) : madeCells #[z] n = (List.replicate n z).toArray := by
  unfold madeCells
  apply Array.ext'
  simp
  apply List.ext_getElem?
  intro i
  simp only [List.getElem?_map, List.getElem?_replicate]
  rcases Nat.lt_or_ge i n with h | h
  · simp [h, Nat.mod_one]
  · simp [h, Nat.not_lt.2 h]
theorem op_make {t e : TypeId} {x y : Operand} {k1 k2 : IntKind} {m c : Nat} {z : Value} [H : Und P t (.slice e)] [S : Size P e 1] [B : Bytes P e 1] [Z : Zero P e [z]] (hg : Goes w0 M Fs w)
    (h : ∀ b w', Goes w0 M ([(b, .cells (List.replicate c z).toArray e (0, 0))] :: Fs) w' → WO P r ops Q os (put l dst (.slice (some ⟨b, 0, none⟩) m c)) d w')
    (hx : ev l x = .int k1 m := by first | (simp only [ev, gt, put, List.set_cons_succ, List.set_cons_zero, Nat.zero_add, Nat.add_zero, Nat.mul_one, Nat.reduceAdd, Nat.reduceMul, Int.toNat_natCast, Int.reduceToNat, List.map_cons, List.map_nil, List.cons_append, List.nil_append]; exact rfl) | simp only [ev, gt, put, List.set_cons_succ, List.set_cons_zero, Nat.zero_add, Nat.add_zero, Nat.mul_one, Nat.reduceAdd, Nat.reduceMul, Int.toNat_natCast, Int.reduceToNat, List.map_cons, List.map_nil, List.cons_append, List.nil_append]) (hy : ev l y = .int k2 c := by first | (simp only [ev, gt, put, List.set_cons_succ, List.set_cons_zero, Nat.zero_add, Nat.add_zero, Nat.mul_one, Nat.reduceAdd, Nat.reduceMul, Int.toNat_natCast, Int.reduceToNat, List.map_cons, List.map_nil, List.cons_append, List.nil_append]; exact rfl) | simp only [ev, gt, put, List.set_cons_succ, List.set_cons_zero, Nat.zero_add, Nat.add_zero, Nat.mul_one, Nat.reduceAdd, Nat.reduceMul, Int.toNat_natCast, Int.reduceToNat, List.map_cons, List.map_nil, List.cons_append, List.nil_append]) (hmc : m ≤ c := by omega) (hc : c ≤ 16777216 := by omega) :
    WO P r ops Q (⟨dst, .makeSlice t x y, ty, pos, af, none⟩ :: os) l d w := by
  have hzo := Z.out
  have hso := S.out
  have hbo := B.out
  cases hi : P.info? e with
  | none => simp [hi] at hzo
  | some ie =>
    simp [hi] at hzo hso hbo
    obtain ⟨zz, hz, hzc⟩ := hzo
    have hcs : zz.cells = #[z] := by apply Array.ext'; rw [hzc]
    have hrun := run_makeSlice (P := P) w t e ie zz H.out hi hz k1 k2 m c (by omega) (by omega) (by rw [hso]; omega) (by rw [hbo]; omega) (by omega)
    rw [hso, hcs, Nat.mul_one, made_one, Int.toNat_natCast, Int.toNat_natCast] at hrun
    refine WO.val (by simp) ?_ rfl (h w.heap.size _ (hg.alloc _))
    simp [execOp, St_eval, hx, hy, hrun]

/-- copy out of a string, into a row that is owned. -/
theorem op_copyStr {t tx e : TypeId} {x y : Operand} {g o dl dc : Nat} {bl : List Value} {s : List UInt8} [H : Und P t (.slice e)] [S : Size P e 1] (hg : Goes w0 M Fs w)
    (h : ∀ w', Goes w0 M Fs' w' → WO P r ops Q os (put l dst (.int .i64 (min s.length dl : Nat))) d w')
    (hT : Turn g (.cells bl.toArray e (0, 0)) (.cells (bl.take o ++ bcells (s.take (min s.length dl)) ++ bl.drop (o + min s.length dl)).toArray e (0, 0)) Fs Fs' := by repeat (first | with_reducible exact Turn.here | with_reducible apply Turn.more | with_reducible apply Turn.next))
    (hfit : o + dl ≤ bl.length := by omega) (hx : ev l x = .slice (some ⟨g, o, none⟩) dl dc := by first | (simp only [ev, gt, put, List.set_cons_succ, List.set_cons_zero, Nat.zero_add, Nat.add_zero, Nat.mul_one, Nat.reduceAdd, Nat.reduceMul, Int.toNat_natCast, Int.reduceToNat, List.map_cons, List.map_nil, List.cons_append, List.nil_append]; exact rfl) | simp only [ev, gt, put, List.set_cons_succ, List.set_cons_zero, Nat.zero_add, Nat.add_zero, Nat.mul_one, Nat.reduceAdd, Nat.reduceMul, Int.toNat_natCast, Int.reduceToNat, List.map_cons, List.map_nil, List.cons_append, List.nil_append]) (hy : ev l y = .string (str s) := by first | (simp only [ev, gt, put, List.set_cons_succ, List.set_cons_zero, Nat.zero_add, Nat.add_zero, Nat.mul_one, Nat.reduceAdd, Nat.reduceMul, Int.toNat_natCast, Int.reduceToNat, List.map_cons, List.map_nil, List.cons_append, List.nil_append]; exact rfl) | simp only [ev, gt, put, List.set_cons_succ, List.set_cons_zero, Nat.zero_add, Nat.add_zero, Nat.mul_one, Nat.reduceAdd, Nat.reduceMul, Int.toNat_natCast, Int.reduceToNat, List.map_cons, List.map_nil, List.cons_append, List.nil_append]) :
    WO P r ops Q (⟨dst, .call { callee := .builtin .copy, args := #[x, y], argTypes := #[t, tx] }, ty, pos, af, none⟩ :: os) l d w := by
  have hb := hT.own hg
  have hso := S.out
  have hlen : (bcells (s.take (min s.length dl))).length = min s.length dl := by rw [bcells_len, List.length_take]; omega
  have hst := run_storeCells_at (P := P) g o e (bcells (s.take (min s.length dl))) 0 bl.toArray w hb (by rw [hlen]; simp; omega) (fun v hv => by obtain ⟨b, _, rfl⟩ := List.mem_map.1 hv; rfl)
  simp only [Nat.add_zero, hlen] at hst
  cases hi : P.info? e with
  | none => simp [hi] at hso
  | some ie =>
    simp [hi] at hso
    refine WO.val (by simp) ?_ rfl (h _ (hT.setRow hg))
    have hmin : Nat.min (str s).size dl = min s.length dl := by rw [str_size]
    have htk : (List.map (fun b : UInt8 => Value.int IntKind.u8 (b.toNat : Int)) (str s).data.toList).take (min s.length dl) = bcells (s.take (min s.length dl)) := by
      rw [str_list, ← List.map_take]
      rfl
    have hrun : (Builtin.copy_ #[t, tx] ty #[.slice (some ⟨g, o, none⟩) dl dc, .string (str s)]).run P w = .ok (.int .i64 (min s.length dl : Nat)) (w.setRow g (bl.take o ++ bcells (s.take (min s.length dl)) ++ bl.drop (o + min s.length dl)).toArray) := by
      simp [Builtin.copy_, run_underlying H.out, Builtin.lenOf, Builtin.firstCells, sizeOf, typeInfo, hi, hso, hmin]
      rw [htk, hst]
      simp only [Result.andThen, List.append_assoc]
      rfl
    simp [execOp, resolve, invoke, builtin, St_eval, hx, hy, hrun]
/-- copy out of a row of bytes, into a row that is owned: all of it. -/
theorem op_copyRow {t tx e : TypeId} {x y : Operand} {g n c1 c2 : Nat} {p : Addr} {bl cs : List Value} [H : Und P t (.slice e)] [S : Size P e 1] (hg : Goes w0 M Fs w) (hsrc : ∀ j v, cs[j]? = some v → w.cell? (p.add j) = some v) (hn : cs.length = n) (hbl : bl.length = n) (ho : ∀ v ∈ cs, v.oneCell' = true)
    (h : ∀ w', Goes w0 M Fs' w' → WO P r ops Q os (put l dst (.int .i64 n)) d w')
    (hT : Turn g (.cells bl.toArray e (0, 0)) (.cells cs.toArray e (0, 0)) Fs Fs' := by repeat (first | with_reducible exact Turn.here | with_reducible apply Turn.more | with_reducible apply Turn.next))
    (hx : ev l x = .slice (some ⟨g, 0, none⟩) n c1 := by first | (simp only [ev, gt, put, List.set_cons_succ, List.set_cons_zero, Nat.zero_add, Nat.add_zero, Nat.mul_one, Nat.reduceAdd, Nat.reduceMul, Int.toNat_natCast, Int.reduceToNat, List.map_cons, List.map_nil, List.cons_append, List.nil_append]; exact rfl) | simp only [ev, gt, put, List.set_cons_succ, List.set_cons_zero, Nat.zero_add, Nat.add_zero, Nat.mul_one, Nat.reduceAdd, Nat.reduceMul, Int.toNat_natCast, Int.reduceToNat, List.map_cons, List.map_nil, List.cons_append, List.nil_append]) (hy : ev l y = .slice (some p) n c2 := by first | (simp only [ev, gt, put, List.set_cons_succ, List.set_cons_zero, Nat.zero_add, Nat.add_zero, Nat.mul_one, Nat.reduceAdd, Nat.reduceMul, Int.toNat_natCast, Int.reduceToNat, List.map_cons, List.map_nil, List.cons_append, List.nil_append]; exact rfl) | simp only [ev, gt, put, List.set_cons_succ, List.set_cons_zero, Nat.zero_add, Nat.add_zero, Nat.mul_one, Nat.reduceAdd, Nat.reduceMul, Int.toNat_natCast, Int.reduceToNat, List.map_cons, List.map_nil, List.cons_append, List.nil_append]) :
    WO P r ops Q (⟨dst, .call { callee := .builtin .copy, args := #[x, y], argTypes := #[t, tx] }, ty, pos, af, none⟩ :: os) l d w := by
  have hb := hT.own hg
  have hrun := run_copy_row (P := P) w t tx ty e g 0 n c1 p n c2 bl.toArray e cs H.out S.out hb (by rw [hn]; exact (Nat.min_self n).symm) hsrc (by simp; omega) ho
  have e1 : (bl.toArray.toList.take 0 ++ cs ++ bl.toArray.toList.drop (0 + cs.length)) = cs := by
    rw [Nat.zero_add, hn, ← hbl]; simp
  rw [e1, hn] at hrun
  refine WO.val (by simp) ?_ rfl (h _ (hT.setRow hg))
  simp [execOp, resolve, invoke, builtin, St_eval, hx, hy, hrun, goInt]

theorem fold_bytes : ∀ (l : List UInt8) (s : ByteArray), ((l.map fun b => (b.toNat : Int)).foldl (fun r n => r.push (UInt8.ofNat n.toNat)) s) = s ++ str l
  | [], s => by apply str_ext; simp [str]
  | b :: l, s => by
    rw [List.map_cons, List.foldl_cons, fold_bytes l]
    apply str_ext
    simp [str]
/-- A string of bytes. -/
theorem op_toStr {s t : TypeId} {x : Operand} {bs : List UInt8} {a : Option Addr} {n c : Nat} [hs : Und P s (.slice 5)] [hu : Und P 5 (.int .u8)] [ht : Und P t .string] (hn : bs.length = n) (hr : ∀ p, a = some p → Cells w p (bcells bs)) (hz : a = none → bs = []) (h : WO P r ops Q os (put l dst (.string (str bs))) d w) (hx : ev l x = .slice a n c := by first | (simp only [ev, gt, put, List.set_cons_succ, List.set_cons_zero, Nat.zero_add, Nat.add_zero, Nat.mul_one, Nat.reduceAdd, Nat.reduceMul, Int.toNat_natCast, Int.reduceToNat, List.map_cons, List.map_nil, List.cons_append, List.nil_append]; exact rfl) | simp only [ev, gt, put, List.set_cons_succ, List.set_cons_zero, Nat.zero_add, Nat.add_zero, Nat.mul_one, Nat.reduceAdd, Nat.reduceMul, Int.toNat_natCast, Int.reduceToNat, List.map_cons, List.map_nil, List.cons_append, List.nil_append]) :
    WO P r ops Q (⟨dst, .convert s t x, ty, pos, af, none⟩ :: os) l d w := by
  refine WO.val (by simp) ?_ rfl h
  have hrun : (Conv.bytesToString (.slice a n c)).run P w = .ok (.string (str bs)) w := by
    cases a with
    | none => rw [hz rfl]; rfl
    | some p =>
      have h1 := run_loadCells_list (P := P) w p (bcells bs) (hr p rfl)
      rw [bcells_len, hn] at h1
      have h2 := run_bytesToString (P := P) w p n c (bs.map fun b => (b.toNat : Int)) (by rw [h1]; simp [bcells, Function.comp_def])
      rw [fold_bytes] at h2
      rw [h2]
      congr 2
  simp [execOp, convert, run_underlying hs.out, run_underlying ht.out, run_underlying hu.out, St_eval, hx, hrun]
end
end Go.Proofs.Ytdjepfpmoeecaaa
