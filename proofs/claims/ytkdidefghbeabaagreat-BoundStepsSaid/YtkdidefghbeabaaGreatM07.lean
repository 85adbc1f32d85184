/- Lexers in plain Lean, and as they lie; loops by a number; append onto a slice that has no room. A cut behind a region. Names: the program's and the document's. Automata: alphabet.Right, slices.Max, ContainsFunc, subset.Right, table.dfa, of one that may be. -/
import Derived.Test.YtkdidefghbeabaaGreatM06
namespace Go.Proofs.YtkdidefghbeabaaGreat
open Go Go.RowKit
set_option maxRecDepth 10000
set_option linter.unusedSimpArgs false
set_option linter.unusedVariables false

/-! ## Loops by a number -/

section
variable {P : Program} {r : Option Nat} {Q : Exit → Go.Act → World → Prop} {l : List Value} {d : List Deferred} {w : World} {c : Code}
theorem least {p : Nat → Prop} : ∀ n, p n → ∃ n, p n ∧ ∀ m, p m → n ≤ m := by
  intro n
  induction n using Nat.strongRecOn with
  | ind n ih =>
    intro hn
    rcases Classical.em (∃ m, m < n ∧ p m) with ⟨m, h1, h2⟩ | h
    · exact ih m h1 h2
    · exact ⟨n, hn, fun m hm => Nat.le_of_not_lt fun hlt => h ⟨m, hlt, hm⟩⟩
theorem least' {p : Nat → Prop} (h : ∃ n, p n) : ∃ n, p n ∧ ∀ m, p m → n ≤ m := by
  obtain ⟨n, hn⟩ := h
  exact least n hn
open Classical in
/-- A loop that turns the slots X; what holds is told with a number that falls. -/
theorem WC.loopN (X : List Tmp) (I : Nat → List Value → List Deferred → World → Prop) (h0 : ∃ n0, I n0 (X.map (gt l)) d w)
    (round : ∀ n xs d w, xs.length = X.length → I n xs d w → ∀ K : Go.Act → World → Prop, (∀ l' d' w' m, setAll l X (X.map (gt l')) = l' → I m (X.map (gt l')) d' w' → m < n → K (St l' d') w') → WC P r c (Exit.then K Q) (setAll l X xs) d w) :
    WC P r (.loop c) Q l d w := by
  let μ : List Value → List Deferred → World → Nat := fun xs d w => if h : ∃ n, I n xs d w then (least' h).choose else 0
  have hμ : ∀ {n xs d w}, I n xs d w → I (μ xs d w) xs d w ∧ μ xs d w ≤ n := by
    intro n xs d w h
    have he : ∃ n, I n xs d w := ⟨n, h⟩
    have e : μ xs d w = (least' he).choose := by simp only [μ]; rw [dif_pos he]
    rw [e]
    have := (least' he).choose_spec
    exact ⟨this.1, this.2 n h⟩
  refine WC.loopS X (fun xs d w => ∃ n, I n xs d w) μ h0 ?_
  rintro xs d w hl ⟨n, hI⟩ K hK
  obtain ⟨h1, h2⟩ := hμ hI
  exact round (μ xs d w) xs d w hl h1 K (fun l' d' w' m e1 e2 e3 => hK l' d' w' e1 ⟨m, e2⟩ (by have := (hμ e2).2; omega))
end

theorem Goes.drop0 {w0 w : World} {M : List Nat} {f : Frag} {Fs : List Frag} (h : Goes w0 M (f :: Fs) w) : Goes w0 M Fs w := h.sub (by simp)
theorem Goes.tail1 {w0 w : World} {M : List Nat} {f g : Frag} {Fs : List Frag} (h : Goes w0 M (f :: g :: Fs) w) : Goes w0 M (f :: Fs) w := h.sub (by simp)

/-! ## append -/

section
variable {P : Program} {e : TypeId} {sz cap : Nat} {a : Option Addr} {rows : List (List Value)} {w0 w : World} {M : List Nat} {Fs : List Frag}
theorem Sl.flat (h : Sl w a cap sz rows) (hr : ∀ r ∈ rows, r.length = sz) {p : Addr} (ha : a = some p) (hs : 0 < sz) : ∀ j u, rows.flatten[j]? = some u → w.cell? (p.add j) = some u := by
  intro j u hj
  have hne : rows ≠ [] := by rintro rfl; simp at hj
  obtain ⟨bb, k, rfl, hrow⟩ := h.row p ha hne
  have hfl := flat_len sz rows hr
  have hjl := (List.getElem?_eq_some_iff.1 hj).1
  rw [hfl] at hjl
  have hi : j / sz < rows.length := Nat.div_lt_of_lt_mul (by rw [Nat.mul_comm]; exact hjl)
  have hm := Nat.mod_lt j hs
  have h2 := hrow (j / sz) _ (List.getElem?_eq_getElem hi)
  have h3 : rows[j / sz][j % sz]? = some u := by
    have hlt : j % sz < rows[j / sz].length := by rw [h2.1]; exact hm
    have h4 := rows_get sz rows hr (j / sz) (j % sz) _ _ (List.getElem?_eq_getElem hi) (List.getElem?_eq_getElem hlt)
    rw [Nat.mul_comm, Nat.div_add_mod] at h4
    rw [List.getElem?_eq_getElem hlt, ← h4, hj]
  have h5 := h2.2 (j % sz) u h3
  rw [add_lit] at h5 ⊢
  rw [show k + j = k + j / sz * sz + j % sz from by rw [Nat.add_assoc, Nat.mul_comm, Nat.div_add_mod]]
  exact h5

variable {r : Option Nat} {ops : Array Oper} {Q : Exit → Go.Act → World → Prop} {os : List Oper} {l : List Value} {d : List Deferred} {dst : Option Tmp} {ty : TypeId} {pos : String} {af : Array Edge}
/-- append, onto a slice of which all room is taken: a new row. -/
theorem op_appendNew {t tx : TypeId} {y z : Operand} {x : Value} {n m by' : Nat} {news zs : List Value} [H : Und P t (.slice e)] [S : Size P e sz] [B : Bytes P e by'] [Z : Zero P e zs]
    (hg : Goes w0 M Fs w) (hS : Sl w a cap sz rows) (hr : ∀ r ∈ rows, r.length = sz) (hn : rows.length = n) (hroom : cap < n + m) (hx : Src P sz tx x m news w)
    (h : ∀ a' cap' f' w', Own e sz a' (n + m) cap' (rows.flatten ++ news) f' → Goes w0 M (f' :: Fs) w' → WO P r ops Q os (put l dst (.slice a' (n + m) cap')) d w')
    (hy : ev l y = .slice a n cap := by first | (simp only [ev, gt, put, List.set_cons_succ, List.set_cons_zero, Nat.zero_add, Nat.add_zero, Nat.mul_one, Nat.reduceAdd, Nat.reduceMul, Int.toNat_natCast, Int.reduceToNat, List.map_cons, List.map_nil, List.cons_append, List.nil_append]; exact rfl) | simp only [ev, gt, put, List.set_cons_succ, List.set_cons_zero, Nat.zero_add, Nat.add_zero, Nat.mul_one, Nat.reduceAdd, Nat.reduceMul, Int.toNat_natCast, Int.reduceToNat, List.map_cons, List.map_nil, List.cons_append, List.nil_append]) (hx' : ev l z = x := by first | (simp only [ev, gt, put, List.set_cons_succ, List.set_cons_zero, Nat.zero_add, Nat.add_zero, Nat.mul_one, Nat.reduceAdd, Nat.reduceMul, Int.toNat_natCast, Int.reduceToNat, List.map_cons, List.map_nil, List.cons_append, List.nil_append]; exact rfl) | simp only [ev, gt, put, List.set_cons_succ, List.set_cons_zero, Nat.zero_add, Nat.add_zero, Nat.mul_one, Nat.reduceAdd, Nat.reduceMul, Int.toNat_natCast, Int.reduceToNat, List.map_cons, List.map_nil, List.cons_append, List.nil_append]) (hb : (n + m) * by' ≤ 140737488355328 := by omega) (hz : zs.length = sz := by decide) (h0 : 0 < sz := by decide) (h1 : 0 < by' := by decide) :
    WO P r ops Q (⟨dst, .call { callee := .builtin .append, args := #[y, z], argTypes := #[t, tx] }, ty, pos, af, none⟩ :: os) l d w := by
  subst hn
  have hSo := S.out
  have hBo := B.out
  have hZo := Z.out
  cases hi : P.info? e with
  | none => simp [hi] at hSo
  | some ie =>
    simp [hi] at hSo hBo hZo
    obtain ⟨z', hz1, hz2⟩ := hZo
    subst hSo
    have hml : rows.length + m ≤ 140737488355328 := by
      have : (rows.length + m) * 1 ≤ (rows.length + m) * by' := Nat.mul_le_mul_left _ h1
      omega
    have hmax : rows.length + m ≤ maxLen := by simp only [maxLen]; omega
    have hfl := flat_len ie.size rows hr
    have hlen : (rows.flatten ++ news).length = (rows.length + m) * ie.size := by rw [List.length_append, hfl, hx.newsLen, Nat.add_mul]
    have hzc : z'.cells.size = ie.size := by rw [← hz, ← hz2]; simp
    have hold : (Builtin.firstCells ie.size rows.length (.slice a rows.length cap)).run P w.drew = .ok rows.flatten.toArray w.drew := by
      cases a with
      | none => rw [hS.nil rfl]; exact run_firstCells_none w.drew _ _ _ _
      | some p => exact run_firstCells_some w.drew ie.size rows.length p rows.length cap rows.flatten hfl (fun j u hj => hS.flat hr rfl h0 j u hj)
    have hrun := run_append_grow_src (P := P) w t tx ty e ie z' H.out hi hz1 a rows.length cap rows.flatten hold x m news hx hroom (by omega) (by rw [hBo]; exact growslice_fits hroom hb)
    have hge := grownCap_ge w (rows.length + m) cap e
    have hcm : grownCap w (rows.length + m) cap e ≤ maxLen := grownCap_le_maxLen w (rows.length + m) cap e hmax
    have hobj : ((rows.flatten ++ news).toArray ++ Builtin.zeroCells z'.cells (grownCap w (rows.length + m) cap e - (rows.length + m))) = ((rows.flatten ++ news) ++ (Builtin.zeroCells z'.cells (grownCap w (rows.length + m) cap e - (rows.length + m))).toList).toArray := by
      apply Array.ext'; simp
    rw [hobj] at hrun
    have hO : Own e ie.size (some ⟨w.heap.size, 0, none⟩) (rows.length + m) (grownCap w (rows.length + m) cap e) (rows.flatten ++ news) [(w.heap.size, .cells (List.toArray ((rows.flatten ++ news) ++ (Builtin.zeroCells z'.cells (grownCap w (rows.length + m) cap e - (rows.length + m))).toList)) e (0, 0))] := by
      refine .row hge hcm ?_ ?_
      · have e1 : ∀ k, ((Builtin.zeroCells z'.cells k).toList).length = k * ie.size := fun k => by rw [Array.length_toList, size_zeroCells, hzc]
        rw [List.length_append, hlen, e1, ← Nat.add_mul]
        congr 1
        omega
      · rw [← hlen]; exact List.take_left
    refine WO.val (by simp) ?_ rfl (h _ _ _ _ hO ((hg.drew).alloc _))
    simp [execOp, resolve, invoke, builtin, St_eval, hy, hx', hrun]
/-- A byte of a string. -/
theorem x_indexStrL {P : Program} {w : World} {t ty : TypeId} {l : List Value} {x y : Operand} {ik : IntKind} {i : Int} {s : List UInt8} [H : Und P t .string] (hx : ev l x = .string (str s) := by first | (simp only [ev, gt, put, List.set_cons_succ, List.set_cons_zero, Nat.zero_add, Nat.add_zero, Nat.mul_one, Nat.reduceAdd, Nat.reduceMul, Int.toNat_natCast, Int.reduceToNat, List.map_cons, List.map_nil, List.cons_append, List.nil_append]; exact rfl) | simp only [ev, gt, put, List.set_cons_succ, List.set_cons_zero, Nat.zero_add, Nat.add_zero, Nat.mul_one, Nat.reduceAdd, Nat.reduceMul, Int.toNat_natCast, Int.reduceToNat, List.map_cons, List.map_nil, List.cons_append, List.nil_append]) (hy : ev l y = .int ik i := by first | (simp only [ev, gt, put, List.set_cons_succ, List.set_cons_zero, Nat.zero_add, Nat.add_zero, Nat.mul_one, Nat.reduceAdd, Nat.reduceMul, Int.toNat_natCast, Int.reduceToNat, List.map_cons, List.map_nil, List.cons_append, List.nil_append]; exact rfl) | simp only [ev, gt, put, List.set_cons_succ, List.set_cons_zero, Nat.zero_add, Nat.add_zero, Nat.mul_one, Nat.reduceAdd, Nat.reduceMul, Int.toNat_natCast, Int.reduceToNat, List.map_cons, List.map_nil, List.cons_append, List.nil_append]) (h0 : 0 ≤ i := by omega) (h1 : i.toNat < s.length := by omega) :
    Runs P l (.index t x y) ty w (.int .u8 (s.getD i.toNat 0).toNat) := by
  refine x_indexStr hx hy h0 ?_
  have hlt : i.toNat < (str s).size := by rw [str_size]; exact h1
  rw [getElem?_pos (str s) i.toNat hlt]
  congr 1
  rw [List.getD_eq_getElem?_getD, List.getElem?_eq_getElem h1]
  rfl
end

/-! ## Lexers -/

structure PDfa where
  cls : List Int
  width : Int
  next : List (List Int)
  tag : List Int
  start : Int
structure PAct where
  emit : List UInt8
  goto : Int
def PAct.enc (a : PAct) : List Value := [.string (str a.emit), .int .i64 a.goto]
structure PLex where
  modes : List (List UInt8)
  dfas : List PDfa
  acts : List PAct

def encS (s : List UInt8) : List Value := [.string (str s)]
def IntsAt (w : World) (v : Value) (l : List Int) : Prop := ∃ a cap, v = .slice a l.length cap ∧ Sl w a cap 1 (l.map encI)
def StrsAt (w : World) (v : Value) (l : List (List UInt8)) : Prop := ∃ a cap, v = .slice a l.length cap ∧ Sl w a cap 1 (l.map encS)
def ActsAt (w : World) (v : Value) (l : List PAct) : Prop := ∃ a cap, v = .slice a l.length cap ∧ Sl w a cap 2 (l.map PAct.enc)
/-- A slice of what itself bears slices. -/
def NestAt {X : Type} (R : World → List Value → X → Prop) (w : World) (sz : Nat) (v : Value) (xs : List X) : Prop :=
  ∃ a cap css, v = .slice a xs.length cap ∧ css.length = xs.length ∧ Sl w a cap sz css ∧ ∀ (i : Nat) (cs : List Value) (x : X), css[i]? = some cs → xs[i]? = some x → R w cs x
def RowAt (w : World) (cs : List Value) (l : List Int) : Prop := ∃ u, cs = [u] ∧ IntsAt w u l
def DfaAt (w : World) (cs : List Value) (d : PDfa) : Prop := ∃ vc vn vt, cs = [vc, .int .i64 d.width, vn, vt, .int .i64 d.start] ∧ IntsAt w vc d.cls ∧ NestAt RowAt w 1 vn d.next ∧ IntsAt w vt d.tag
def LexAt (w : World) (cs : List Value) (L : PLex) : Prop := ∃ vm vd va, cs = [vm, vd, va] ∧ StrsAt w vm L.modes ∧ NestAt DfaAt w 5 vd L.dfas ∧ ActsAt w va L.acts

section
variable {w0 w : World} {Fs : List Frag} {v : Value} {cs : List Value}
theorem IntsAt.goes {l : List Int} (h : IntsAt w0 v l) (hg : Goes w0 [] Fs w) : IntsAt w v l := by
  obtain ⟨a, cap, rfl, hS⟩ := h
  exact ⟨a, cap, rfl, hS.goes hg⟩
theorem StrsAt.goes {l : List (List UInt8)} (h : StrsAt w0 v l) (hg : Goes w0 [] Fs w) : StrsAt w v l := by
  obtain ⟨a, cap, rfl, hS⟩ := h
  exact ⟨a, cap, rfl, hS.goes hg⟩
theorem ActsAt.goes {l : List PAct} (h : ActsAt w0 v l) (hg : Goes w0 [] Fs w) : ActsAt w v l := by
  obtain ⟨a, cap, rfl, hS⟩ := h
  exact ⟨a, cap, rfl, hS.goes hg⟩
theorem NestAt.goes {X : Type} {R : World → List Value → X → Prop} {sz : Nat} {xs : List X} (h : NestAt R w0 sz v xs) (hg : Goes w0 [] Fs w) (hR : ∀ cs x, R w0 cs x → R w cs x) : NestAt R w sz v xs := by
  obtain ⟨a, cap, css, rfl, hl, hS, hr⟩ := h
  exact ⟨a, cap, css, rfl, hl, hS.goes hg, fun i cs x h1 h2 => hR _ _ (hr i cs x h1 h2)⟩
theorem RowAt.goes {l : List Int} (h : RowAt w0 cs l) (hg : Goes w0 [] Fs w) : RowAt w cs l := by
  obtain ⟨u, rfl, hu⟩ := h
  exact ⟨u, rfl, hu.goes hg⟩
theorem DfaAt.goes {d : PDfa} (h : DfaAt w0 cs d) (hg : Goes w0 [] Fs w) : DfaAt w cs d := by
  obtain ⟨vc, vn, vt, rfl, h1, h2, h3⟩ := h
  exact ⟨vc, vn, vt, rfl, h1.goes hg, h2.goes hg (fun cs x hx => hx.goes hg), h3.goes hg⟩
theorem LexAt.goes {L : PLex} (h : LexAt w0 cs L) (hg : Goes w0 [] Fs w) : LexAt w cs L := by
  obtain ⟨vm, vd, va, rfl, h1, h2, h3⟩ := h
  exact ⟨vm, vd, va, rfl, h1.goes hg, h2.goes hg (fun cs x hx => hx.goes hg), h3.goes hg⟩
theorem NestAt.get {X : Type} {R : World → List Value → X → Prop} {sz : Nat} {xs : List X} (h : NestAt R w sz v xs) {i : Nat} (hi : i < xs.length) : ∃ b k cap cs, v = .slice (some ⟨b, k, none⟩) xs.length cap ∧ cs.length = sz ∧ Cells w ⟨b, k + i * sz, none⟩ cs ∧ R w cs xs[i] := by
  obtain ⟨a, cap, css, rfl, hl, hS, hr⟩ := h
  obtain ⟨b, k, rfl, h1, h2⟩ := hS.at (i := i) (r := css[i]'(by omega)) (List.getElem?_eq_getElem (by omega))
  exact ⟨b, k, cap, _, rfl, h1, h2, hr i _ _ (List.getElem?_eq_getElem (by omega)) (List.getElem?_eq_getElem hi)⟩
theorem NestAt.slice {X : Type} {R : World → List Value → X → Prop} {sz : Nat} {xs : List X} (h : NestAt R w sz v xs) : ∃ a cap, v = .slice a xs.length cap ∧ xs.length ≤ 140737488351232 := by
  obtain ⟨a, cap, css, rfl, hl, hS, hr⟩ := h
  exact ⟨a, cap, rfl, by have := hS.lim; omega⟩
theorem IntsAt.get {l : List Int} (h : IntsAt w v l) {i : Nat} (hi : i < l.length) : ∃ b k cap, v = .slice (some ⟨b, k, none⟩) l.length cap ∧ w.cell? ⟨b, k + i, none⟩ = some (.int .i64 (l.getD i 0)) := by
  obtain ⟨a, cap, rfl, hS⟩ := h
  obtain ⟨b, k, rfl, hc⟩ := ints_cell hS i hi
  exact ⟨b, k, cap, rfl, hc⟩
/-- Where they begin, wherever one looks. -/
theorem IntsAt.base {l : List Int} (h : IntsAt w v l) (hl : 0 < l.length) : ∃ b k cap, v = .slice (some ⟨b, k, none⟩) l.length cap ∧ ∀ i, i < l.length → w.cell? ⟨b, k + i, none⟩ = some (.int .i64 (l.getD i 0)) := by
  obtain ⟨a, cap, rfl, hS⟩ := h
  obtain ⟨b, k, rfl, _⟩ := ints_cell hS 0 hl
  refine ⟨b, k, cap, rfl, fun i hi => ?_⟩
  obtain ⟨b2, k2, e, hc⟩ := ints_cell hS i hi
  simp only [Option.some.injEq, Addr.mk.injEq] at e
  rw [e.1, e.2.1]
  exact hc
theorem IntsAt.slice {l : List Int} (h : IntsAt w v l) : ∃ a cap, v = .slice a l.length cap ∧ l.length ≤ 140737488351232 := by
  obtain ⟨a, cap, rfl, hS⟩ := h
  have := hS.lim
  exact ⟨a, cap, rfl, by simpa using this⟩
end
end Go.Proofs.YtkdidefghbeabaaGreat
namespace Go.Proofs.YtkdidefghbeabaaGreat
open Go Go.RowKit
set_option linter.unusedVariables false
def CutQ (l : List Value) (d : List Deferred) (X : List Tmp) (J : List Value → World → Prop) : Exit → Go.Act → World → Prop :=
  fun x a w => ∃ l', x = .normal ∧ a = St l' d ∧ setAll l X (X.map (gt l')) = l' ∧ J (X.map (gt l')) w
theorem CutQ.mk {l l' : List Value} {d : List Deferred} {X : List Tmp} {J : List Value → World → Prop} {w : World} (h1 : setAll l X (X.map (gt l')) = l') (h2 : J (X.map (gt l')) w) : CutQ l d X J .normal (St l' d) w := ⟨l', rfl, rfl, h1, h2⟩
/-- What is known behind a part of the code, of the slots X that it turns. -/
theorem WC.cut {P : Program} {r : Option Nat} {Q : Exit → Go.Act → World → Prop} {l : List Value} {d : List Deferred} {w : World} {c : Code} (X : List Tmp) (J : List Value → World → Prop) (h : WC P r c (CutQ l d X J) l d w)
    (k : ∀ xs w, xs.length = X.length → J xs w → Q .normal (St (setAll l X xs) d) w) : WC P r c Q l d w := by
  refine ⟨wpIn_mono h.out ?_⟩
  rintro e a w' ⟨l', rfl, rfl, h1, h2⟩
  have := k _ w' (by simp) h2
  rw [h1] at this
  exact this
theorem QX.frame {Q : Exit → Go.Act → World → Prop} {l l' : List Value} {d : List Deferred} {w : World} (hl : l = l') (h : Q .normal (St l' d) w) : Q .normal (St l d) w := hl ▸ h
/-- Where a region stands: nothing is done. -/
theorem WC.at {P : Program} {r : Option Nat} {Q : Exit → Go.Act → World → Prop} {l : List Value} {d : List Deferred} {w : World} {os : Array Oper} {b : Bool} {y : Code} (k : Nat) (h : WC P r (.seq (.region k os b) y) Q l d w) : WC P r (.seq (.region k os b) y) Q l d w := h
section
variable {P : Program} {Q : Exit → Go.Act → World → Prop} {S : World → Prop} {late : List Nat} {l l' : List Value} {d : List Deferred} {w w0 : World} {M : List Nat} {Fs : List Frag} {fuel : Nat} {listed listed' : List Bool}
variable {ops : Array Oper} {os : List Oper} {dst dst2 : Option Tmp} {ty ty2 : TypeId} {pos pos2 : String} {af af2 : Array Edge} {v : Value} {op op2 : Op}
theorem WA.step1 {i : Nat} (h : WO P none ops (KA P ops Q S late i fuel (listed.set i true)) [⟨dst, op, ty, pos, af, none⟩] l d w) (ho : ops[i]? = some ⟨dst, op, ty, pos, af, none⟩) :
    wpOpIn (Fr none) 0 P ops (NQ Q) i (fun a' w' => (late.contains i = false → S w') ∧ wpAnyS (Fr none) 0 P .any ops (NQ Q) S late fuel (listed.toArray.setIfInBounds i true) a' w') (St l d) w := by
  have h1 := h.out
  unfold wpOpIn
  rw [ho]
  simp only [wpListIn, Region.wanted, if_true] at h1 ⊢
  have h2 := wpIn_noPanic (N := fun a w => (late.contains i = false → S w) ∧ wpAnyS (Fr none) 0 P .any ops (NQ Q) S late fuel (listed.set i true).toArray a w) (Q := NQ Q) h1
  simpa using h2
/-- Two are ready. -/
theorem WA.two (i j : Nat) (h1 : WO P none ops (KA P ops Q S late i fuel (listed.set i true)) [⟨dst, op, ty, pos, af, none⟩] l d w) (h2 : WO P none ops (KA P ops Q S late j fuel (listed.set j true)) [⟨dst2, op2, ty2, pos2, af2, none⟩] l d w)
    (ho1 : ops[i]? = some ⟨dst, op, ty, pos, af, none⟩ := by exact rfl) (ho2 : ops[j]? = some ⟨dst2, op2, ty2, pos2, af2, none⟩ := by exact rfl) (hr : Region.ready .any ops listed.toArray = [i, j] := by kernel_rfl) : WA P ops Q S late (fuel + 1) listed l d w := by
  refine ⟨And.intro (fun h0 => by rw [hr] at h0; cases h0) ?_⟩
  intro k hk
  rw [hr] at hk
  rcases List.mem_cons.1 hk with rfl | hk
  · exact WA.step1 h1 ho1
  · obtain rfl := List.mem_singleton.1 hk
    exact WA.step1 h2 ho2
end
end Go.Proofs.YtkdidefghbeabaaGreat
namespace Go.Proofs.YtkdidefghbeabaaGreat
open Go Go.RowKit
set_option maxRecDepth 10000
set_option linter.unusedSimpArgs false
set_option linter.unusedVariables false

def letterB (c : Int) : Bool := decide ((97 ≤ c ∧ c ≤ 122) ∨ (65 ≤ c ∧ c ≤ 90) ∨ c = 95)
def partB (c : Int) : Bool := letterB c || decide (48 ≤ c ∧ c ≤ 57)
def NameR (s : List UInt8) : Prop := s ≠ [] ∧ s.length ≤ 32 ∧ letterB ((s.getD 0 0).toNat : Int) = true ∧ ∀ i, i < s.length → partB ((s.getD i 0).toNat : Int) = true

theorem letter_spec (w0 : World) (c : Int) : Calls Tryz.prog 137 #[.int .u8 c] w0 fun e w' => e = .returned (.bool (letterB c)) ∧ Goes w0 [] [] w' := by
  have hg := Goes.refl w0
  refine enter Tryz.func137 rfl (by simp only [Tryz.ntmps137, List.length_cons, List.length_nil, Nat.reduceAdd, Nat.reduceSub, List.replicate_succ, List.replicate_zero, List.cons_append, List.nil_append]; exact rfl) ?_
  repeat' (first | refine zN ?_ | (refine WC.quietG hg ?_; clear hg) | ((with_reducible refine WQ.nilG ?_); intro w hg) | (refine zB ?_; clear hg; intro b w hg; refine WO.fr ?_) | (refine zW ?_; clear hg; intro w hg; refine WO.fr ?_) | (refine op_pureB hg ?_; clear hg; intro w hg c hc; cases c <;> refine WO.fr ?_) | ((with_reducible refine WO.cid ?_); refine WO.xS ?_; intro c hc; cases c <;> (refine WO.fr ?_; try simp only [decide_eq_true_eq, decide_eq_false_iff_not, beq_iff_eq, beq_eq_false_iff_ne, bne_iff_ne, bne_eq_false_iff_eq, ne_eq] at hc)))
  all_goals refine ret1 rfl ⟨?_, hg.drop⟩
  all_goals first
    | rw [show letterB c = true from decide_eq_true (by omega)]; rfl
    | rw [show letterB c = false from decide_eq_false (by omega)]; rfl
theorem part_spec (w0 : World) (c : Int) : Calls Tryz.prog 139 #[.int .u8 c] w0 fun e w' => e = .returned (.bool (partB c)) ∧ Goes w0 [] [] w' := by
  have hg := Goes.refl w0
  have p1 : ∀ {w Fs}, Goes w0 [] Fs w → Calls Tryz.prog 137 #[.int .u8 c] w _ := fun _ => letter_spec _ c
  unfold partB
  cases hb : letterB c <;> rw [hb] at p1
  · refine enter Tryz.func139 rfl (by simp only [Tryz.ntmps139, List.length_cons, List.length_nil, Nat.reduceAdd, Nat.reduceSub, List.replicate_succ, List.replicate_zero, List.cons_append, List.nil_append]; exact rfl) ?_
    repeat' (first | refine zN ?_ | (refine WC.quietG hg ?_; clear hg) | ((with_reducible refine WQ.nilG ?_); intro w hg) | (refine zB ?_; clear hg; intro b w hg; refine WO.fr ?_) | (refine zW ?_; clear hg; intro w hg; refine WO.fr ?_) | (refine op_pureB hg ?_; clear hg; intro w hg c hc; cases c <;> refine WO.fr ?_) | ((with_reducible refine WO.cid ?_); refine WO.xS ?_; intro c hc; cases c <;> (refine WO.fr ?_; try simp only [decide_eq_true_eq, decide_eq_false_iff_not, beq_iff_eq, beq_eq_false_iff_ne, bne_iff_ne, bne_eq_false_iff_eq, ne_eq] at hc)))
    all_goals refine ret1 rfl ⟨?_, hg.drop⟩
    all_goals first
      | rw [show decide (48 ≤ c ∧ c ≤ 57) = true from decide_eq_true (by omega)]; rfl
      | rw [show decide (48 ≤ c ∧ c ≤ 57) = false from decide_eq_false (by omega)]; rfl
  · refine enter Tryz.func139 rfl (by simp only [Tryz.ntmps139, List.length_cons, List.length_nil, Nat.reduceAdd, Nat.reduceSub, List.replicate_succ, List.replicate_zero, List.cons_append, List.nil_append]; exact rfl) ?_
    repeat' (first | refine zN ?_ | (refine WC.quietG hg ?_; clear hg) | ((with_reducible refine WQ.nilG ?_); intro w hg) | (refine zB ?_; clear hg; intro b w hg; refine WO.fr ?_) | (refine zW ?_; clear hg; intro w hg; refine WO.fr ?_) | (refine op_pureB hg ?_; clear hg; intro w hg c hc; cases c <;> refine WO.fr ?_))
    exact ret1 rfl ⟨rfl, hg.drop⟩
theorem span_spec (w0 : World) (s : List UInt8) (hl : s.length ≤ 1000) (hs : ∀ i, i < s.length → partB ((s.getD i 0).toNat : Int) = true) : Calls Tryz.prog 138 #[.string (str s), .func (.func 139) #[] #[]] w0 fun e w' => e = .returned (.int .i64 s.length) ∧ Goes w0 [] [] w' := by
  have hg := Goes.refl w0
  have hsz := str_size s
  refine enter Tryz.func138 rfl (by simp only [Tryz.ntmps138, List.length_cons, List.length_nil, Nat.reduceAdd, Nat.reduceSub, List.replicate_succ, List.replicate_zero, List.cons_append, List.nil_append]; exact rfl) ?_
  repeat' (first | refine zN ?_ | (refine WC.quietG hg ?_; clear hg) | ((with_reducible refine WQ.nilG ?_); intro w hg) | (refine zB ?_; clear hg; intro b w hg; refine WO.fr ?_) | (refine zW ?_; clear hg; intro w hg; refine WO.fr ?_) | (refine op_pureB hg ?_; clear hg; intro w hg c hc; cases c <;> refine WO.fr ?_))
  refine WC.loopS [5, 6, 7, 8, 9, 10, 11, 12, 13, 14, 15, 16, 17, 18] (fun xs d w => ∃ i : Nat, d = [] ∧ (gt xs 0) = .int .i64 i ∧ i ≤ s.length ∧ Goes w0 [] [] w) (fun xs _ _ => s.length - (intOf (gt xs 0)).toNat) ?_ ?_
  · exact ⟨0, rfl, rfl, Nat.zero_le _, hg⟩
  clear hg
  intro xs d w hlen hI K hK
  replace hlen := len_cons hlen
  obtain ⟨x5, xs, rfl, hlen⟩ := hlen
  replace hlen := len_cons hlen
  obtain ⟨x6, xs, rfl, hlen⟩ := hlen
  replace hlen := len_cons hlen
  obtain ⟨x7, xs, rfl, hlen⟩ := hlen
  replace hlen := len_cons hlen
  obtain ⟨x8, xs, rfl, hlen⟩ := hlen
  replace hlen := len_cons hlen
  obtain ⟨x9, xs, rfl, hlen⟩ := hlen
  replace hlen := len_cons hlen
  obtain ⟨x10, xs, rfl, hlen⟩ := hlen
  replace hlen := len_cons hlen
  obtain ⟨x11, xs, rfl, hlen⟩ := hlen
  replace hlen := len_cons hlen
  obtain ⟨x12, xs, rfl, hlen⟩ := hlen
  replace hlen := len_cons hlen
  obtain ⟨x13, xs, rfl, hlen⟩ := hlen
  replace hlen := len_cons hlen
  obtain ⟨x14, xs, rfl, hlen⟩ := hlen
  replace hlen := len_cons hlen
  obtain ⟨x15, xs, rfl, hlen⟩ := hlen
  replace hlen := len_cons hlen
  obtain ⟨x16, xs, rfl, hlen⟩ := hlen
  replace hlen := len_cons hlen
  obtain ⟨x17, xs, rfl, hlen⟩ := hlen
  replace hlen := len_cons hlen
  obtain ⟨x18, xs, rfl, hlen⟩ := hlen
  replace hlen := len_nil hlen
  subst hlen
  refine WC.frame (by simp only [setAll, List.set_cons_succ, List.set_cons_zero]; exact rfl) ?_
  try simp only [gt] at hI
  obtain ⟨i, rfl, rfl, hi, hg⟩ := hI
  by_cases hlt : i < s.length
  rotate_left
  · repeat' (first | refine zN ?_ | (refine WC.quietG hg ?_; clear hg) | ((with_reducible refine WQ.nilG ?_); intro w hg) | (refine zB ?_; clear hg; intro b w hg; refine WO.fr ?_) | (refine zW ?_; clear hg; intro w hg; refine WO.fr ?_) | (refine op_pureB hg ?_; clear hg; intro w hg c hc; cases c <;> refine WO.fr ?_))
    obtain rfl : i = s.length := by omega
    exact ret1 rfl ⟨rfl, hg.drop⟩
  have hp := part_spec w0 ((s.getD i 0).toNat : Int)
  repeat' (first | refine zN ?_ | (refine WC.quietG hg ?_; clear hg) | ((with_reducible refine WQ.nilG ?_); intro w hg) | (refine zB ?_; clear hg; intro b w hg; refine WO.fr ?_) | (refine zW ?_; clear hg; intro w hg; refine WO.fr ?_) | (refine op_pureB hg ?_; clear hg; intro w hg c hc; cases c <;> refine WO.fr ?_))
  refine op_callV (fs := []) (cs := []) (f := 139) (part_spec _ ((s.getD i 0).toNat : Int)) ?_
  rw [hs i hlt]
  rintro _ w2 ⟨rfl, hg2⟩
  replace hg := hg.call00 hg2
  clear hg2
  refine ⟨_, rfl, ?_⟩
  refine WO.fr ?_
  repeat' (first | refine zN ?_ | (refine WC.quietG hg ?_; clear hg) | ((with_reducible refine WQ.nilG ?_); intro w hg) | (refine zB ?_; clear hg; intro b w hg; refine WO.fr ?_) | (refine zW ?_; clear hg; intro w hg; refine WO.fr ?_) | (refine op_pureB hg ?_; clear hg; intro w hg c hc; cases c <;> refine WO.fr ?_))
  with_reducible refine QX.norm ?_
  refine hK _ _ _ ?_ ?_ ?_
  · simp only [setAll, List.map_cons, List.map_nil, gt, List.set_cons_succ, List.set_cons_zero]
  all_goals try simp only [List.map_cons, List.map_nil, gt, intOf]
  · exact ⟨i + 1, trivial, rfl, by omega, hg⟩
  · omega
theorem Lead_spec (w0 : World) (s : List UInt8) (hs : NameR s) : Calls Tryz.prog 111 #[.string (str s)] w0 fun e w' => e = .returned (.int .i64 s.length) ∧ Goes w0 [] [] w' := by
  have hg := Goes.refl w0
  obtain ⟨h0, h1, h2, h3⟩ := hs
  have hpos : 0 < s.length := List.length_pos_iff.2 h0
  have p1 : ∀ {w Fs}, Goes w0 [] Fs w → Calls Tryz.prog 137 #[.int .u8 (s.getD 0 0).toNat] w _ := fun _ => letter_spec _ _
  rw [h2] at p1
  have p2 : ∀ {w Fs}, Goes w0 [] Fs w → Calls Tryz.prog 138 #[.string (str s), .func (.func 139) #[] #[]] w _ := fun _ => span_spec _ s (by omega) h3
  have hne : (str s == ⟨#[]⟩) = false := by
    rw [show (⟨#[]⟩ : ByteArray) = str [] from rfl, str_beq]
    exact decide_eq_false h0
  refine enter Tryz.func111 rfl (by simp only [Tryz.ntmps111, List.length_cons, List.length_nil, Nat.reduceAdd, Nat.reduceSub, List.replicate_succ, List.replicate_zero, List.cons_append, List.nil_append]; exact rfl) ?_
  repeat' (first | refine zN ?_ | (refine WC.quietG hg ?_; clear hg) | ((with_reducible refine WQ.nilG ?_); intro w hg) | (refine zB ?_; clear hg; intro b w hg; refine WO.fr ?_) | (refine zW ?_; clear hg; intro w hg; refine WO.fr ?_) | (refine op_pureB hg ?_; clear hg; intro w hg c hc; cases c <;> refine WO.fr ?_))
  rw [hne]
  repeat' (first | refine zN ?_ | (refine WC.quietG hg ?_; clear hg) | ((with_reducible refine WQ.nilG ?_); intro w hg) | (refine zB ?_; clear hg; intro b w hg; refine WO.fr ?_) | (refine zW ?_; clear hg; intro w hg; refine WO.fr ?_) | (refine op_pureB hg ?_; clear hg; intro w hg c hc; cases c <;> refine WO.fr ?_))
  exact ret1 rfl ⟨rfl, hg.drop⟩
theorem Name_spec (w0 : World) (s : List UInt8) (hs : NameR s) : Calls Tryz.prog 76 #[.string (str s)] w0 fun e w' => e = .returned (.bool true) ∧ Goes w0 [] [] w' := by
  have hg := Goes.refl w0
  have hL := hs
  obtain ⟨h0, h1, h2, h3⟩ := hs
  have hsz := str_size s
  have p1 : ∀ {w Fs}, Goes w0 [] Fs w → Calls Tryz.prog 111 #[.string (str s)] w _ := fun _ => Lead_spec _ s hL
  have hne : (str s == ⟨#[]⟩) = false := by
    rw [show (⟨#[]⟩ : ByteArray) = str [] from rfl, str_beq]
    exact decide_eq_false h0
  refine enter Tryz.func76 rfl (by simp only [Tryz.ntmps76, List.length_cons, List.length_nil, Nat.reduceAdd, Nat.reduceSub, List.replicate_succ, List.replicate_zero, List.cons_append, List.nil_append]; exact rfl) ?_
  repeat' (first | refine zN ?_ | (refine WC.quietG hg ?_; clear hg) | ((with_reducible refine WQ.nilG ?_); intro w hg) | (refine zB ?_; clear hg; intro b w hg; refine WO.fr ?_) | (refine zW ?_; clear hg; intro w hg; refine WO.fr ?_) | (refine op_pureB hg ?_; clear hg; intro w hg c hc; cases c <;> refine WO.fr ?_))
  rw [hne]
  repeat' (first | refine zN ?_ | (refine WC.quietG hg ?_; clear hg) | ((with_reducible refine WQ.nilG ?_); intro w hg) | (refine zB ?_; clear hg; intro b w hg; refine WO.fr ?_) | (refine zW ?_; clear hg; intro w hg; refine WO.fr ?_) | (refine op_pureB hg ?_; clear hg; intro w hg c hc; cases c <;> refine WO.fr ?_))
  exact ret1 rfl ⟨rfl, hg.drop⟩

def kindV (c : Int) : Int := if letterB c then 1 else if 48 ≤ c ∧ c ≤ 57 then 2 else 0
theorem kind_part {c : Int} (h : 0 < kindV c) : partB c = true := by
  unfold kindV at h
  unfold partB
  split at h
  · rename_i h1; rw [h1]; rfl
  · split at h
    · rename_i h1; rw [decide_eq_true h1, Bool.or_true]
    · omega
theorem kind_letter {c : Int} (h : kindV c = 1) : letterB c = true := by
  unfold kindV at h
  split at h
  · assumption
  · split at h <;> omega
theorem kind_spec (w0 : World) (c : Int) : Calls Tryz.prog 144 #[.int .u8 c] w0 fun e w' => e = .returned (.int .i64 (kindV c)) ∧ Goes w0 [] [] w' := by
  have hg := Goes.refl w0
  refine enter Tryz.func144 rfl (by simp only [Tryz.ntmps144, List.length_cons, List.length_nil, Nat.reduceAdd, Nat.reduceSub, List.replicate_succ, List.replicate_zero, List.cons_append, List.nil_append]; exact rfl) ?_
  repeat' (first | refine zN ?_ | (refine WC.quietG hg ?_; clear hg) | ((with_reducible refine WQ.nilG ?_); intro w hg) | (refine zB ?_; clear hg; intro b w hg; refine WO.fr ?_) | (refine zW ?_; clear hg; intro w hg; refine WO.fr ?_) | (refine op_pureB hg ?_; clear hg; intro w hg c hc; cases c <;> refine WO.fr ?_) | ((with_reducible refine WO.cid ?_); refine WO.xS ?_; intro c hc; cases c <;> (refine WO.fr ?_; try simp only [decide_eq_true_eq, decide_eq_false_iff_not, beq_iff_eq, beq_eq_false_iff_ne, bne_iff_ne, bne_eq_false_iff_eq, ne_eq] at hc)))
  all_goals refine ret1 rfl ⟨?_, hg.drop⟩
  all_goals first
    | rw [show kindV c = 1 from by unfold kindV; rw [show letterB c = true from decide_eq_true (by omega)]; rfl]; rfl
    | rw [show kindV c = 2 from by unfold kindV; rw [show letterB c = false from decide_eq_false (by omega), if_neg (by decide), if_pos (by omega)]]; rfl
    | rw [show kindV c = 0 from by unfold kindV; rw [show letterB c = false from decide_eq_false (by omega), if_neg (by decide), if_neg (by omega)]]; rfl
theorem dLead_spec (w0 : World) (s : List UInt8) (hl : s.length ≤ 1000000) : Calls Tryz.prog 134 #[.string (str s)] w0 fun e w' => ∃ n : Nat, e = .returned (.int .i64 n) ∧ (n = s.length → s ≠ [] → letterB ((s.getD 0 0).toNat : Int) = true ∧ ∀ i, i < s.length → partB ((s.getD i 0).toNat : Int) = true) ∧ Goes w0 [] [] w' := by
  have hg := Goes.refl w0
  have hsz := str_size s
  refine enter Tryz.func134 rfl (by simp only [Tryz.ntmps134, List.length_cons, List.length_nil, Nat.reduceAdd, Nat.reduceSub, List.replicate_succ, List.replicate_zero, List.cons_append, List.nil_append]; exact rfl) ?_
  repeat' (first | refine zN ?_ | (refine WC.quietG hg ?_; clear hg) | ((with_reducible refine WQ.nilG ?_); intro w hg) | (refine zB ?_; clear hg; intro b w hg; refine WO.fr ?_) | (refine zW ?_; clear hg; intro w hg; refine WO.fr ?_) | (refine op_pureB hg ?_; clear hg; intro w hg c hc; cases c <;> refine WO.fr ?_))
  refine WC.loopS [3, 4, 5, 6, 7, 8, 9, 10, 11, 12, 13, 14, 15, 16, 17, 18, 19, 20, 21, 22, 23, 24, 25, 26, 27] (fun xs d w => ∃ i : Nat, d = [] ∧ (gt xs 0) = .int .i64 i ∧ i ≤ s.length ∧ (0 < i → letterB ((s.getD 0 0).toNat : Int) = true) ∧ (∀ k, k < i → partB ((s.getD k 0).toNat : Int) = true) ∧ Goes w0 [] [] w) (fun xs _ _ => s.length - (intOf (gt xs 0)).toNat) ?_ ?_
  · exact ⟨0, rfl, rfl, Nat.zero_le _, by omega, by omega, hg⟩
  clear hg
  intro xs d w hlen hI K hK
  replace hlen := len_cons hlen
  obtain ⟨x3, xs, rfl, hlen⟩ := hlen
  replace hlen := len_cons hlen
  obtain ⟨x4, xs, rfl, hlen⟩ := hlen
  replace hlen := len_cons hlen
  obtain ⟨x5, xs, rfl, hlen⟩ := hlen
  replace hlen := len_cons hlen
  obtain ⟨x6, xs, rfl, hlen⟩ := hlen
  replace hlen := len_cons hlen
  obtain ⟨x7, xs, rfl, hlen⟩ := hlen
  replace hlen := len_cons hlen
  obtain ⟨x8, xs, rfl, hlen⟩ := hlen
  replace hlen := len_cons hlen
  obtain ⟨x9, xs, rfl, hlen⟩ := hlen
  replace hlen := len_cons hlen
  obtain ⟨x10, xs, rfl, hlen⟩ := hlen
  replace hlen := len_cons hlen
  obtain ⟨x11, xs, rfl, hlen⟩ := hlen
  replace hlen := len_cons hlen
  obtain ⟨x12, xs, rfl, hlen⟩ := hlen
  replace hlen := len_cons hlen
  obtain ⟨x13, xs, rfl, hlen⟩ := hlen
  replace hlen := len_cons hlen
  obtain ⟨x14, xs, rfl, hlen⟩ := hlen
  replace hlen := len_cons hlen
  obtain ⟨x15, xs, rfl, hlen⟩ := hlen
  replace hlen := len_cons hlen
  obtain ⟨x16, xs, rfl, hlen⟩ := hlen
  replace hlen := len_cons hlen
  obtain ⟨x17, xs, rfl, hlen⟩ := hlen
  replace hlen := len_cons hlen
  obtain ⟨x18, xs, rfl, hlen⟩ := hlen
  replace hlen := len_cons hlen
  obtain ⟨x19, xs, rfl, hlen⟩ := hlen
  replace hlen := len_cons hlen
  obtain ⟨x20, xs, rfl, hlen⟩ := hlen
  replace hlen := len_cons hlen
  obtain ⟨x21, xs, rfl, hlen⟩ := hlen
  replace hlen := len_cons hlen
  obtain ⟨x22, xs, rfl, hlen⟩ := hlen
  replace hlen := len_cons hlen
  obtain ⟨x23, xs, rfl, hlen⟩ := hlen
  replace hlen := len_cons hlen
  obtain ⟨x24, xs, rfl, hlen⟩ := hlen
  replace hlen := len_cons hlen
  obtain ⟨x25, xs, rfl, hlen⟩ := hlen
  replace hlen := len_cons hlen
  obtain ⟨x26, xs, rfl, hlen⟩ := hlen
  replace hlen := len_cons hlen
  obtain ⟨x27, xs, rfl, hlen⟩ := hlen
  replace hlen := len_nil hlen
  subst hlen
  refine WC.frame (by simp only [setAll, List.set_cons_succ, List.set_cons_zero]; exact rfl) ?_
  try simp only [gt] at hI
  obtain ⟨i, rfl, rfl, hi, hL, hP, hg⟩ := hI
  by_cases hlt : i < s.length
  rotate_left
  · repeat' (first | refine zN ?_ | (refine WC.quietG hg ?_; clear hg) | ((with_reducible refine WQ.nilG ?_); intro w hg) | (refine zB ?_; clear hg; intro b w hg; refine WO.fr ?_) | (refine zW ?_; clear hg; intro w hg; refine WO.fr ?_) | (refine op_pureB hg ?_; clear hg; intro w hg c hc; cases c <;> refine WO.fr ?_))
    exact ret1 rfl ⟨i, rfl, fun h h0 => ⟨hL (by have := List.length_pos_iff.2 h0; omega), fun k hk => hP k (by omega)⟩, hg.drop⟩
  have p1 : ∀ {w Fs}, Goes w0 [] Fs w → Calls Tryz.prog 144 #[.int .u8 (s.getD i 0).toNat] w _ := fun _ => kind_spec _ _
  by_cases hk : 0 < kindV ((s.getD i 0).toNat : Int)
  rotate_left
  · repeat' (first | refine zN ?_ | (refine WC.quietG hg ?_; clear hg) | ((with_reducible refine WQ.nilG ?_); intro w hg) | (refine zB ?_; clear hg; intro b w hg; refine WO.fr ?_) | (refine zW ?_; clear hg; intro w hg; refine WO.fr ?_) | (refine op_pureB hg ?_; clear hg; intro w hg c hc; cases c <;> refine WO.fr ?_))
    exact ret1 rfl ⟨i, rfl, fun h => by omega, hg.drop⟩
  by_cases h0 : 0 < i
  · repeat' (first | refine zN ?_ | (refine WC.quietG hg ?_; clear hg) | ((with_reducible refine WQ.nilG ?_); intro w hg) | (refine zB ?_; clear hg; intro b w hg; refine WO.fr ?_) | (refine zW ?_; clear hg; intro w hg; refine WO.fr ?_) | (refine op_pureB hg ?_; clear hg; intro w hg c hc; cases c <;> refine WO.fr ?_))
    with_reducible refine QX.norm ?_
    refine hK _ _ _ ?_ ?_ ?_
    · simp only [setAll, List.map_cons, List.map_nil, gt, List.set_cons_succ, List.set_cons_zero]
    all_goals try simp only [List.map_cons, List.map_nil, gt, intOf]
    · exact ⟨i + 1, trivial, rfl, by omega, fun _ => hL h0, fun k hki => by
        by_cases e : k = i
        · rw [e]; exact kind_part hk
        · exact hP k (by omega), hg⟩
    · omega
  by_cases h1 : kindV ((s.getD i 0).toNat : Int) = 1
  · repeat' (first | refine zN ?_ | (refine WC.quietG hg ?_; clear hg) | ((with_reducible refine WQ.nilG ?_); intro w hg) | (refine zB ?_; clear hg; intro b w hg; refine WO.fr ?_) | (refine zW ?_; clear hg; intro w hg; refine WO.fr ?_) | (refine op_pureB hg ?_; clear hg; intro w hg c hc; cases c <;> refine WO.fr ?_))
    with_reducible refine QX.norm ?_
    refine hK _ _ _ ?_ ?_ ?_
    · simp only [setAll, List.map_cons, List.map_nil, gt, List.set_cons_succ, List.set_cons_zero]
    all_goals try simp only [List.map_cons, List.map_nil, gt, intOf]
    · obtain rfl : i = 0 := by omega
      exact ⟨0 + 1, trivial, rfl, by omega, fun _ => kind_letter h1, fun k hki => by
        obtain rfl : k = 0 := by omega
        exact kind_part hk, hg⟩
    · omega
  · repeat' (first | refine zN ?_ | (refine WC.quietG hg ?_; clear hg) | ((with_reducible refine WQ.nilG ?_); intro w hg) | (refine zB ?_; clear hg; intro b w hg; refine WO.fr ?_) | (refine zW ?_; clear hg; intro w hg; refine WO.fr ?_) | (refine op_pureB hg ?_; clear hg; intro w hg c hc; cases c <;> refine WO.fr ?_))
    exact ret1 rfl ⟨i, rfl, fun h => by omega, hg.drop⟩
theorem dName_spec (w0 : World) (s : List UInt8) : Calls Tryz.prog 107 #[.string (str s)] w0 fun e w' => (e = .returned (.bool false) ∨ (e = .returned (.bool true) ∧ NameR s)) ∧ Goes w0 [] [] w' := by
  have hg := Goes.refl w0
  have hsz := str_size s
  refine enter Tryz.func107 rfl (by simp only [Tryz.ntmps107, List.length_cons, List.length_nil, Nat.reduceAdd, Nat.reduceSub, List.replicate_succ, List.replicate_zero, List.cons_append, List.nil_append]; exact rfl) ?_
  by_cases h0 : 0 < s.length
  rotate_left
  · repeat' (first | refine zN ?_ | (refine WC.quietG hg ?_; clear hg) | ((with_reducible refine WQ.nilG ?_); intro w hg) | (refine zB ?_; clear hg; intro b w hg; refine WO.fr ?_) | (refine zW ?_; clear hg; intro w hg; refine WO.fr ?_) | (refine op_pureB hg ?_; clear hg; intro w hg c hc; cases c <;> refine WO.fr ?_))
    exact ret1 rfl ⟨.inl rfl, hg.drop⟩
  by_cases h32 : s.length ≤ 32
  rotate_left
  · repeat' (first | refine zN ?_ | (refine WC.quietG hg ?_; clear hg) | ((with_reducible refine WQ.nilG ?_); intro w hg) | (refine zB ?_; clear hg; intro b w hg; refine WO.fr ?_) | (refine zW ?_; clear hg; intro w hg; refine WO.fr ?_) | (refine op_pureB hg ?_; clear hg; intro w hg c hc; cases c <;> refine WO.fr ?_))
    exact ret1 rfl ⟨.inl rfl, hg.drop⟩
  repeat' (first | refine zN ?_ | (refine WC.quietG hg ?_; clear hg) | ((with_reducible refine WQ.nilG ?_); intro w hg) | (refine zB ?_; clear hg; intro b w hg; refine WO.fr ?_) | (refine zW ?_; clear hg; intro w hg; refine WO.fr ?_) | (refine op_pureB hg ?_; clear hg; intro w hg c hc; cases c <;> refine WO.fr ?_))
  refine op_call (dLead_spec _ s (by omega)) ?_
  rintro _ w2 ⟨n, rfl, hn, hg2⟩
  replace hg := hg.call00 hg2
  clear hg2
  refine ⟨_, rfl, ?_⟩
  refine WO.fr ?_
  by_cases he : n = s.length
  · repeat' (first | refine zN ?_ | (refine WC.quietG hg ?_; clear hg) | ((with_reducible refine WQ.nilG ?_); intro w hg) | (refine zB ?_; clear hg; intro b w hg; refine WO.fr ?_) | (refine zW ?_; clear hg; intro w hg; refine WO.fr ?_) | (refine op_pureB hg ?_; clear hg; intro w hg c hc; cases c <;> refine WO.fr ?_))
    exact ret1 rfl ⟨.inr ⟨rfl, List.length_pos_iff.1 h0, h32, hn he (List.length_pos_iff.1 h0)⟩, hg.drop⟩
  · repeat' (first | refine zN ?_ | (refine WC.quietG hg ?_; clear hg) | ((with_reducible refine WQ.nilG ?_); intro w hg) | (refine zB ?_; clear hg; intro b w hg; refine WO.fr ?_) | (refine zW ?_; clear hg; intro w hg; refine WO.fr ?_) | (refine op_pureB hg ?_; clear hg; intro w hg c hc; cases c <;> refine WO.fr ?_))
    exact ret1 rfl ⟨.inl rfl, hg.drop⟩
end Go.Proofs.YtkdidefghbeabaaGreat
namespace Go.Proofs.YtkdidefghbeabaaGreat
open Go Go.RowKit
set_option maxRecDepth 10000
set_option linter.unusedSimpArgs false
set_option linter.unusedVariables false

/-- How many classes numbers tell, of which n were met; none: they are no classes. -/
def alphaN : List Int → Nat → Option Nat
  | [], n => some n
  | k :: l, n => if k < 0 ∨ (n : Int) < k then none else if k = n then alphaN l (n + 1) else alphaN l n
theorem alphaN_cons {k : Int} {l : List Int} {n m : Nat} (h : alphaN (k :: l) n = some m) : 0 ≤ k ∧ k ≤ n ∧ alphaN l (if k = n then n + 1 else n) = some m := by
  simp only [alphaN] at h
  split at h
  · cases h
  · refine ⟨by omega, by omega, ?_⟩
    split at h <;> rename_i h1
    · rw [if_pos h1]; exact h
    · rw [if_neg h1]; exact h
theorem alphaN_le : ∀ {l : List Int} {n m : Nat}, alphaN l n = some m → n ≤ m ∧ m ≤ n + l.length ∧ (∀ k ∈ l, 0 ≤ k ∧ k < (m : Int)) ∧ (n < m → ((m : Int) - 1) ∈ l)
  | [], n, m, h => by simp [alphaN] at h; subst h; simp
  | k :: l, n, m, h => by
    obtain ⟨h1, h2, h3⟩ := alphaN_cons h
    obtain ⟨i1, i2, i3, i4⟩ := alphaN_le h3
    by_cases he : k = n
    · rw [if_pos he] at i1 i2 i4
      refine ⟨by omega, by simp; omega, ?_, fun _ => ?_⟩
      · intro x hx
        rcases List.mem_cons.1 hx with rfl | hx
        · omega
        · exact i3 x hx
      · by_cases hm : n + 1 < m
        · exact List.mem_cons_of_mem _ (i4 hm)
        · rw [show (m : Int) - 1 = k by omega]; exact List.mem_cons_self
    · rw [if_neg he] at i1 i2 i4
      refine ⟨by omega, by simp; omega, ?_, fun hlt => List.mem_cons_of_mem _ (i4 hlt)⟩
      intro x hx
      rcases List.mem_cons.1 hx with rfl | hx
      · omega
      · exact i3 x hx

structure DfaOK (acts : Nat) (d : PDfa) : Prop where
  c1 : d.cls.length = 256
  c2 : ∃ n : Nat, alphaN d.cls 0 = some n ∧ d.width = n
  n1 : d.next.length ≤ 1024
  t1 : d.tag.length = d.next.length
  s1 : -1 ≤ d.start ∧ d.start < d.next.length
  t2 : ∀ i, i < d.next.length → -1 ≤ d.tag.getD i 0 ∧ d.tag.getD i 0 < acts
  r1 : ∀ i, i < d.next.length → ((d.next.getD i []).length : Int) = d.width
  r2 : ∀ i k, i < d.next.length → k < (d.next.getD i []).length → -1 ≤ (d.next.getD i []).getD k 0 ∧ (d.next.getD i []).getD k 0 < d.next.length
  s2 : 0 ≤ d.start → d.tag.getD d.start.toNat 0 < 0

theorem getD_mem {l : List Int} {i : Nat} (h : i < l.length) : l.getD i 0 ∈ l := by
  rw [List.getD_eq_getElem?_getD, List.getElem?_eq_getElem h]
  exact List.getElem_mem h
theorem mem_getD {l : List Int} {x : Int} (h : x ∈ l) : ∃ i, i < l.length ∧ l.getD i 0 = x := by
  obtain ⟨i, hi⟩ := List.getElem?_of_mem h
  exact ⟨i, (List.getElem?_eq_some_iff.1 hi).1, by rw [List.getD_eq_getElem?_getD, hi]; rfl⟩
theorem drop_getD {l : List Int} {i : Nat} (h : i < l.length) : l.drop i = l.getD i 0 :: l.drop (i + 1) := by
  rw [List.drop_eq_getElem_cons h, List.getD_eq_getElem?_getD, List.getElem?_eq_getElem h]
  rfl
theorem DfaOK.width {n : Nat} {d : PDfa} (h : DfaOK n d) : 1 ≤ d.width ∧ d.width ≤ 256 ∧ ∀ k ∈ d.cls, 0 ≤ k ∧ k < d.width := by
  obtain ⟨m, h1, h2⟩ := h.c2
  obtain ⟨i1, i2, i3, i4⟩ := alphaN_le h1
  rw [h2]
  refine ⟨?_, by have := h.c1; omega, i3⟩
  have := i3 _ (getD_mem (i := 0) (by have := h.c1; omega))
  omega

theorem alphaRight_spec (w0 : World) (v : Value) (l : List Int) (hS : IntsAt w0 v l) (hl : l.length = 256) {m : Nat} (hm : alphaN l 0 = some m) : Calls Tryz.prog 112 #[v] w0 fun e w' => e = .returned (.bool true) ∧ Goes w0 [] [] w' := by
  obtain ⟨b, k, cap, rfl, hc⟩ := hS.base (by omega)
  have hg := Goes.refl w0
  refine enter Tryz.func112 rfl (by simp only [Tryz.ntmps112, List.length_cons, List.length_nil, Nat.reduceAdd, Nat.reduceSub, List.replicate_succ, List.replicate_zero, List.cons_append, List.nil_append]; exact rfl) ?_
  repeat' (first | refine zN ?_ | (refine WC.quietG hg ?_; clear hg) | ((with_reducible refine WQ.nilG ?_); intro w hg) | (refine zB ?_; clear hg; intro b w hg; refine WO.fr ?_) | (refine zW ?_; clear hg; intro w hg; refine WO.fr ?_) | (refine op_pureB hg ?_; clear hg; intro w hg c hc; cases c <;> refine WO.fr ?_))
  refine WC.loopS [2, 3, 5, 11, 12, 13, 14, 15, 16, 17, 18, 19, 20, 21, 22, 23, 24, 25, 26, 27] (fun xs d w => ∃ i n : Nat, d = [] ∧ (gt xs 3) = .int .i64 i ∧ (gt xs 1) = .int .i64 n ∧ i ≤ l.length ∧ n ≤ i ∧ alphaN (l.drop i) n = some m ∧ Goes w0 [] [] w) (fun xs _ _ => l.length - (intOf (gt xs 3)).toNat) ?_ ?_
  · exact ⟨0, 0, rfl, rfl, rfl, Nat.zero_le _, Nat.zero_le _, hm, hg⟩
  clear hg
  intro xs d w hlen hI K hK
  replace hlen := len_cons hlen
  obtain ⟨x2, xs, rfl, hlen⟩ := hlen
  replace hlen := len_cons hlen
  obtain ⟨x3, xs, rfl, hlen⟩ := hlen
  replace hlen := len_cons hlen
  obtain ⟨x5, xs, rfl, hlen⟩ := hlen
  replace hlen := len_cons hlen
  obtain ⟨x11, xs, rfl, hlen⟩ := hlen
  replace hlen := len_cons hlen
  obtain ⟨x12, xs, rfl, hlen⟩ := hlen
  replace hlen := len_cons hlen
  obtain ⟨x13, xs, rfl, hlen⟩ := hlen
  replace hlen := len_cons hlen
  obtain ⟨x14, xs, rfl, hlen⟩ := hlen
  replace hlen := len_cons hlen
  obtain ⟨x15, xs, rfl, hlen⟩ := hlen
  replace hlen := len_cons hlen
  obtain ⟨x16, xs, rfl, hlen⟩ := hlen
  replace hlen := len_cons hlen
  obtain ⟨x17, xs, rfl, hlen⟩ := hlen
  replace hlen := len_cons hlen
  obtain ⟨x18, xs, rfl, hlen⟩ := hlen
  replace hlen := len_cons hlen
  obtain ⟨x19, xs, rfl, hlen⟩ := hlen
  replace hlen := len_cons hlen
  obtain ⟨x20, xs, rfl, hlen⟩ := hlen
  replace hlen := len_cons hlen
  obtain ⟨x21, xs, rfl, hlen⟩ := hlen
  replace hlen := len_cons hlen
  obtain ⟨x22, xs, rfl, hlen⟩ := hlen
  replace hlen := len_cons hlen
  obtain ⟨x23, xs, rfl, hlen⟩ := hlen
  replace hlen := len_cons hlen
  obtain ⟨x24, xs, rfl, hlen⟩ := hlen
  replace hlen := len_cons hlen
  obtain ⟨x25, xs, rfl, hlen⟩ := hlen
  replace hlen := len_cons hlen
  obtain ⟨x26, xs, rfl, hlen⟩ := hlen
  replace hlen := len_cons hlen
  obtain ⟨x27, xs, rfl, hlen⟩ := hlen
  replace hlen := len_nil hlen
  subst hlen
  refine WC.frame (by simp only [setAll, List.set_cons_succ, List.set_cons_zero]; exact rfl) ?_
  try simp only [gt] at hI
  obtain ⟨i, n, rfl, rfl, rfl, hi, hn, hA, hg⟩ := hI
  by_cases hlt : i < l.length
  rotate_left
  · repeat' (first | refine zN ?_ | (refine WC.quietG hg ?_; clear hg) | ((with_reducible refine WQ.nilG ?_); intro w hg) | (refine zB ?_; clear hg; intro b w hg; refine WO.fr ?_) | (refine zW ?_; clear hg; intro w hg; refine WO.fr ?_) | (refine op_pureB hg ?_; clear hg; intro w hg c hc; cases c <;> refine WO.fr ?_))
    exact ret1 rfl ⟨rfl, hg.drop⟩
  rw [drop_getD hlt] at hA
  obtain ⟨h1, h2, h3⟩ := alphaN_cons hA
  have c1 : ∀ {w Fs}, Goes w0 [] Fs w → w.cell? ⟨b, k + i, none⟩ = some (.int .i64 (l.getD i 0)) := fun g => g.cellOld0 (hc i hlt)
  generalize l.getD i 0 = x at h1 h2 h3 c1
  by_cases he : x = n
  · rw [if_pos he] at h3
    repeat' (first | refine zN ?_ | (refine WC.quietG hg ?_; clear hg) | ((with_reducible refine WQ.nilG ?_); intro w hg) | (refine zB ?_; clear hg; intro b w hg; refine WO.fr ?_) | (refine zW ?_; clear hg; intro w hg; refine WO.fr ?_) | (refine op_pureB hg ?_; clear hg; intro w hg c hc; cases c <;> refine WO.fr ?_))
    with_reducible refine QX.norm ?_
    refine hK _ _ _ ?_ ?_ ?_
    · simp only [setAll, List.map_cons, List.map_nil, gt, List.set_cons_succ, List.set_cons_zero]
    all_goals try simp only [List.map_cons, List.map_nil, gt, intOf]
    · exact ⟨i + 1, n + 1, trivial, rfl, rfl, by omega, by omega, h3, hg⟩
    · omega
  · rw [if_neg he] at h3
    repeat' (first | refine zN ?_ | (refine WC.quietG hg ?_; clear hg) | ((with_reducible refine WQ.nilG ?_); intro w hg) | (refine zB ?_; clear hg; intro b w hg; refine WO.fr ?_) | (refine zW ?_; clear hg; intro w hg; refine WO.fr ?_) | (refine op_pureB hg ?_; clear hg; intro w hg c hc; cases c <;> refine WO.fr ?_))
    with_reducible refine QX.norm ?_
    refine hK _ _ _ ?_ ?_ ?_
    · simp only [setAll, List.map_cons, List.map_nil, gt, List.set_cons_succ, List.set_cons_zero]
    all_goals try simp only [List.map_cons, List.map_nil, gt, intOf]
    · exact ⟨i + 1, n, trivial, rfl, rfl, by omega, by omega, h3, hg⟩
    · omega

theorem Max_spec (w0 : World) (v : Value) (l : List Int) (hS : IntsAt w0 v l) (hl : 0 < l.length) (hl2 : l.length ≤ 1000000) : Calls Tryz.prog 113 #[v] w0 fun e w' => (∃ M, e = .returned (.int .i64 M) ∧ M ∈ l ∧ ∀ k ∈ l, k ≤ M) ∧ Goes w0 [] [] w' := by
  obtain ⟨b, k, cap, rfl, hc⟩ := hS.base hl
  have hg := Goes.refl w0
  have c1 : ∀ {w Fs}, Goes w0 [] Fs w → w.cell? ⟨b, k, none⟩ = some (.int .i64 (l.getD 0 0)) := fun g => g.cellOld0 (hc 0 hl)
  refine enter Tryz.func113 rfl (by simp only [Tryz.ntmps113, List.length_cons, List.length_nil, Nat.reduceAdd, Nat.reduceSub, List.replicate_succ, List.replicate_zero, List.cons_append, List.nil_append]; exact rfl) ?_
  repeat' (first | refine zN ?_ | (refine WC.quietG hg ?_; clear hg) | ((with_reducible refine WQ.nilG ?_); intro w hg) | (refine zB ?_; clear hg; intro b w hg; refine WO.fr ?_) | (refine zW ?_; clear hg; intro w hg; refine WO.fr ?_) | (refine op_pureB hg ?_; clear hg; intro w hg c hc; cases c <;> refine WO.fr ?_))
  refine WC.loopS [3, 4, 12, 13, 14, 15, 16, 17, 18, 19, 20, 21, 22, 23] (fun xs d w => ∃ (i : Nat) (M : Int), d = [] ∧ (gt xs 1) = .int .i64 i ∧ (gt xs 0) = .int .i64 M ∧ 0 < i ∧ i ≤ l.length ∧ M ∈ l ∧ (∀ j, j < i → l.getD j 0 ≤ M) ∧ Goes w0 [] [] w) (fun xs _ _ => l.length - (intOf (gt xs 1)).toNat) ?_ ?_
  · have hA : ∀ j, j < 1 → l.getD j 0 ≤ l.getD 0 0 := fun j hj => by
      have : j = 0 := by omega
      rw [this]; exact Int.le_refl _
    exact ⟨1, l.getD 0 0, rfl, rfl, rfl, by omega, by omega, getD_mem hl, hA, hg⟩
  clear hg c1
  intro xs d w hlen hI K hK
  replace hlen := len_cons hlen
  obtain ⟨x3, xs, rfl, hlen⟩ := hlen
  replace hlen := len_cons hlen
  obtain ⟨x4, xs, rfl, hlen⟩ := hlen
  replace hlen := len_cons hlen
  obtain ⟨x12, xs, rfl, hlen⟩ := hlen
  replace hlen := len_cons hlen
  obtain ⟨x13, xs, rfl, hlen⟩ := hlen
  replace hlen := len_cons hlen
  obtain ⟨x14, xs, rfl, hlen⟩ := hlen
  replace hlen := len_cons hlen
  obtain ⟨x15, xs, rfl, hlen⟩ := hlen
  replace hlen := len_cons hlen
  obtain ⟨x16, xs, rfl, hlen⟩ := hlen
  replace hlen := len_cons hlen
  obtain ⟨x17, xs, rfl, hlen⟩ := hlen
  replace hlen := len_cons hlen
  obtain ⟨x18, xs, rfl, hlen⟩ := hlen
  replace hlen := len_cons hlen
  obtain ⟨x19, xs, rfl, hlen⟩ := hlen
  replace hlen := len_cons hlen
  obtain ⟨x20, xs, rfl, hlen⟩ := hlen
  replace hlen := len_cons hlen
  obtain ⟨x21, xs, rfl, hlen⟩ := hlen
  replace hlen := len_cons hlen
  obtain ⟨x22, xs, rfl, hlen⟩ := hlen
  replace hlen := len_cons hlen
  obtain ⟨x23, xs, rfl, hlen⟩ := hlen
  replace hlen := len_nil hlen
  subst hlen
  refine WC.frame (by simp only [setAll, List.set_cons_succ, List.set_cons_zero]; exact rfl) ?_
  try simp only [gt] at hI
  obtain ⟨i, M, rfl, rfl, rfl, h0, hi, hM, hA, hg⟩ := hI
  by_cases hlt : i < l.length
  rotate_left
  · repeat' (first | refine zN ?_ | (refine WC.quietG hg ?_; clear hg) | ((with_reducible refine WQ.nilG ?_); intro w hg) | (refine zB ?_; clear hg; intro b w hg; refine WO.fr ?_) | (refine zW ?_; clear hg; intro w hg; refine WO.fr ?_) | (refine op_pureB hg ?_; clear hg; intro w hg c hc; cases c <;> refine WO.fr ?_))
    refine ret1 rfl ⟨⟨M, rfl, hM, fun x hx => ?_⟩, hg.drop⟩
    obtain ⟨j, hj, rfl⟩ := mem_getD hx
    exact hA j (by omega)
  have c1 : ∀ {w Fs}, Goes w0 [] Fs w → w.cell? ⟨b, k + i, none⟩ = some (.int .i64 (l.getD i 0)) := fun g => g.cellOld0 (hc i hlt)
  have hx := getD_mem hlt
  generalize hxe : l.getD i 0 = x at c1 hx
  repeat' (first | refine zN ?_ | (refine WC.quietG hg ?_; clear hg) | ((with_reducible refine WQ.nilG ?_); intro w hg) | (refine zB ?_; clear hg; intro b w hg; refine WO.fr ?_) | (refine zW ?_; clear hg; intro w hg; refine WO.fr ?_) | (refine op_pureB hg ?_; clear hg; intro w hg c hc; cases c <;> refine WO.fr ?_))
  with_reducible refine QX.norm ?_
  refine hK _ _ _ ?_ ?_ ?_
  · simp only [setAll, List.map_cons, List.map_nil, gt, List.set_cons_succ, List.set_cons_zero]
  all_goals try simp only [List.map_cons, List.map_nil, gt, intOf]
  · refine ⟨i + 1, max M x, trivial, rfl, rfl, by omega, by omega, ?_, fun j hj => ?_, hg⟩
    · rcases Int.le_total M x with h | h
      · rw [Int.max_eq_right h]; exact hx
      · rw [Int.max_eq_left h]; exact hM
    · by_cases e : j = i
      · rw [e, hxe]; omega
      · have := hA j (by omega); omega
  · omega
end Go.Proofs.YtkdidefghbeabaaGreat
