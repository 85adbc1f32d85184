/- The cache's Copy (for the window). -/
import Derived.Test.YtdjepfpmoeecaaaCaL
import Derived.Laws.Externs
namespace Go.Proofs.Ytdjepfpmoeecaaa
open Go Go.RowKit
set_option maxRecDepth 10000
set_option linter.unusedSimpArgs false
set_option linter.unusedVariables false

section
variable {P : Program} {r : Option Nat} {Q : Exit → Go.Act → World → Prop} {l l' : List Value} {d : List Deferred} {w w' w0 : World} {M : List Nat} {Fs Fs' : List Frag}
variable {ops : Array Oper} {os : List Oper} {dst : Option Tmp} {ty : TypeId} {pos : String} {af : Array Edge} {v : Value}
theorem run_cloneM {P : Program} {w : World} {bm clock : Nat} {es : Array MapEntry} (t : TypeId) (hb : w.heap[bm]? = some (.map es clock)) :
    (Extern.MapsClone.clone #[.iface t (.map (some bm))]).run P w = .ok (.iface t (.map (some w.heap.size))) (w.alloc (.map es clock)) := by
  have e : Extern.MapsClone.clone #[.iface t (.map (some bm))] = (getObj bm >>= fun o => match o with
      | .map entries clock => (newObj (.map entries clock) >>= fun n => pure (.iface t (.map (some n))))
      | _ => stuck "maps.clone: a map expected") := rfl
  rw [e]
  simp [MapKept.run_getObj_map hb, Result.andThen, go_sem]
theorem op_cloneM {f : FuncId} {fn : Func} {t T : TypeId} {bm clock : Nat} {es : Array MapEntry} {x : Operand} {ts : Array TypeId} (hf : P.funcs[f]? = some fn) (hname : (fn.name == "runtime.NumGoroutine") = false) (hbd : fn.body.isNone = true) (hn : Extern.findNext fn = none) (he : Extern.find fn = some Extern.MapsClone.clone)
    (hg : Goes w0 M Fs w) (hm : w.heap[bm]? = some (.map es clock)) (h : ∀ b w', Goes w0 M ([(b, .map es clock)] :: Fs) w' → WO P r ops Q os (put l dst (.iface t (.map (some b)))) d w') (hx : ev l x = .iface t (.map (some bm)) := by first | (simp only [ev, gt, put, List.set_cons_succ, List.set_cons_zero, Nat.zero_add, Nat.add_zero, Nat.mul_one, Nat.reduceAdd, Nat.reduceMul, Int.toNat_natCast, Int.reduceToNat, List.map_cons, List.map_nil, List.cons_append, List.nil_append]; exact rfl) | simp only [ev, gt, put, List.set_cons_succ, List.set_cons_zero, Nat.zero_add, Nat.add_zero, Nat.mul_one, Nat.reduceAdd, Nat.reduceMul, Int.toNat_natCast, Int.reduceToNat, List.map_cons, List.map_nil, List.cons_append, List.nil_append]) :
    WO P r ops Q (⟨dst, .call { callee := .value (.func f), args := #[x], argTypes := ts }, T, pos, af, none⟩ :: os) l d w := by
  refine WO.val (by simp) ?_ rfl (h w.heap.size _ (hg.alloc _))
  have e1 := run_callFunc_extern (P := P) hf hname hbd hn he #[.iface t (.map (some bm))] w
  rw [run_cloneM t hm] at e1
  simp only [Result.andThen] at e1
  have hx2 : (St l d).eval x = .iface t (.map (some bm)) := by rw [St_eval]; exact hx
  have e2 : (St l d).eval (.func f) = .func (.func f) #[] #[] := rfl
  simp [execOp, resolve, hx2, e2, Deferred.ofValue, invoke, e1]
theorem op_assertMap {t xt k e : TypeId} {x : Operand} [hu : Und P t (.map k e)] (h : WO P r ops Q os (put l dst v) d w) (hx : ev l x = .iface t v := by first | (simp only [ev, gt, put, List.set_cons_succ, List.set_cons_zero, Nat.zero_add, Nat.add_zero, Nat.mul_one, Nat.reduceAdd, Nat.reduceMul, Int.toNat_natCast, Int.reduceToNat, List.map_cons, List.map_nil, List.cons_append, List.nil_append]; exact rfl) | simp only [ev, gt, put, List.set_cons_succ, List.set_cons_zero, Nat.zero_add, Nat.add_zero, Nat.mul_one, Nat.reduceAdd, Nat.reduceMul, Int.toNat_natCast, Int.reduceToNat, List.map_cons, List.map_nil, List.cons_append, List.nil_append]) : WO P r ops Q (⟨dst, .typeAssert x xt t false, ty, pos, af, none⟩ :: os) l d w := by
  refine WO.val (by simp) ?_ rfl h
  simp [execOp, St_eval, hx, Instr.typeAssert, run_underlying hu.out]
end

instance : Conc Try.prog 51 := ⟨by kernel_rfl⟩
theorem ints_src {w : World} {b : Option Addr} {c : Nat} {its : List Int} (h : Sl w b c 1 (its.map encI)) : Src Try.prog 1 85 (.slice b its.length c) its.length (its.map encI).flatten w := by
  have := h.src (P := Try.prog) (tx := 85) Und.out (by simp [encI]) (by simp [encI, Value.oneCell'])
  simpa using this

theorem sClone_spec {a : Option Addr} {cap : Nat} {h : List Int} {f : Frag} {w0 : World} (hW : Own 3 1 a h.length cap (h.map encI).flatten f) (hO : Owns w0 f) (hn : h.length ≤ 900000) :
    Calls Try.prog 47 #[.slice a h.length cap] w0 fun e w' => ∃ a' cap' f', e = .returned (.slice a' h.length cap') ∧ Own 3 1 a' h.length cap' (h.map encI).flatten f' ∧ Goes w0 [] [f'] w' := by
  have hg := Goes.refl w0
  have hsl := ints_own (w0 := w0) (w := w0) (M := keys f) (Fs := []) hW hO.goes (by omega)
  cases a with
  | none =>
    have h0 : h.length = 0 := by generalize hx : (h.map encI).flatten = xs at hW; generalize hy : h.length = n at hW; cases hW; rfl
    have hh : h = [] := List.eq_nil_of_length_eq_zero h0
    subst hh
    refine enter Try.func47 rfl (by simp only [Try.ntmps47, List.length_cons, List.length_nil, Nat.reduceAdd, Nat.reduceSub, List.replicate_succ, List.replicate_zero, List.cons_append, List.nil_append]; exact rfl) ?_
    repeat' (first
      | with_reducible refine QX.next ?_ | with_reducible refine WC.seq ?_ | with_reducible refine WC.region ?_ | with_reducible refine WC.block ?_ | with_reducible refine QX.bnorm ?_ | with_reducible refine QX.bret ?_ | with_reducible refine QX.ret ?_ | with_reducible refine QX.exit ?_ | with_reducible refine QX.bsame ?_ | with_reducible refine QX.bother rfl ?_
      | with_reducible refine WO.nil ?_ | with_reducible refine WC.skip ?_ | with_reducible refine WC.ret ?_ | with_reducible refine WC.exit ?_ | ((with_reducible refine WC.id ?_); first | refine WC.condT rfl ?_ | refine WC.condF rfl ?_)
      | (refine WC.quietG hg ?_; clear hg) | ((with_reducible refine WQ.nilG ?_); intro w hg)
      | ((with_reducible refine WQ.cid ?_); first | refine WQ.xG ?_ | refine WQ.pure ?_)
      | ((with_reducible refine WQ.gid ?_); first | refine WQ.on rfl ?_ | refine WQ.offN rfl rfl ?_)
      | ((with_reducible refine WO.cid ?_); first
        | refine WO.x ?_ | (refine op_alloc hg ?_; clear hg; intro b w hg; refine WO.fr ?_) | (refine op_boxA hg ?_; clear hg; intro b w hg; refine WO.fr ?_) | (refine op_box1 hg ?_; clear hg; intro b w hg; refine WO.fr ?_)
        | (refine op_store hg ?_; clear hg; intro w hg; refine WO.fr ?_; try simp only [List.set_cons_succ, List.set_cons_zero] at hg)
        | (refine op_storeA hg ?_; clear hg; intro w hg; refine WO.fr ?_; try simp only [over, List.take_zero, List.take_succ_cons, List.drop_zero, List.drop_succ_cons, List.nil_append, List.cons_append, List.append_nil, List.length_cons, List.length_nil, Nat.zero_add, Nat.reduceAdd, splice, cellsL] at hg)
        | (refine op_pure hg ?_; clear hg; intro w hg; refine WO.fr ?_) | (refine op_pureB hg ?_; clear hg; intro w hg c hc; cases c <;> refine WO.fr ?_))
      | ((with_reducible refine WO.gid ?_); first | refine WO.on rfl ?_ | refine WO.offN rfl rfl ?_))
    exact ret1 rfl ⟨none, 0, [], rfl, .nil, hg.perm (by simp)⟩
  | some p =>
    refine enter Try.func47 rfl (by simp only [Try.ntmps47, List.length_cons, List.length_nil, Nat.reduceAdd, Nat.reduceSub, List.replicate_succ, List.replicate_zero, List.cons_append, List.nil_append]; exact rfl) ?_
    repeat' (first
      | with_reducible refine QX.next ?_ | with_reducible refine WC.seq ?_ | with_reducible refine WC.region ?_ | with_reducible refine WC.block ?_ | with_reducible refine QX.bnorm ?_ | with_reducible refine QX.bret ?_ | with_reducible refine QX.ret ?_ | with_reducible refine QX.exit ?_ | with_reducible refine QX.bsame ?_ | with_reducible refine QX.bother rfl ?_
      | with_reducible refine WO.nil ?_ | with_reducible refine WC.skip ?_ | with_reducible refine WC.ret ?_ | with_reducible refine WC.exit ?_ | ((with_reducible refine WC.id ?_); first | refine WC.condT rfl ?_ | refine WC.condF rfl ?_)
      | (refine WC.quietG hg ?_; clear hg) | ((with_reducible refine WQ.nilG ?_); intro w hg)
      | ((with_reducible refine WQ.cid ?_); first | refine WQ.xG ?_ | refine WQ.pure ?_)
      | ((with_reducible refine WQ.gid ?_); first | refine WQ.on rfl ?_ | refine WQ.offN rfl rfl ?_)
      | ((with_reducible refine WO.cid ?_); first
        | refine WO.x ?_ | (refine op_alloc hg ?_; clear hg; intro b w hg; refine WO.fr ?_) | (refine op_boxA hg ?_; clear hg; intro b w hg; refine WO.fr ?_) | (refine op_box1 hg ?_; clear hg; intro b w hg; refine WO.fr ?_)
        | (refine op_store hg ?_; clear hg; intro w hg; refine WO.fr ?_; try simp only [List.set_cons_succ, List.set_cons_zero] at hg)
        | (refine op_storeA hg ?_; clear hg; intro w hg; refine WO.fr ?_; try simp only [over, List.take_zero, List.take_succ_cons, List.drop_zero, List.drop_succ_cons, List.nil_append, List.cons_append, List.append_nil, List.length_cons, List.length_nil, Nat.zero_add, Nat.reduceAdd, splice, cellsL] at hg)
        | (refine op_pure hg ?_; clear hg; intro w hg; refine WO.fr ?_) | (refine op_pureB hg ?_; clear hg; intro w hg c hc; cases c <;> refine WO.fr ?_))
      | ((with_reducible refine WO.gid ?_); first | refine WO.on rfl ?_ | refine WO.offN rfl rfl ?_))
    refine op_buildNil hg ?_
    clear hg
    intro b w hO1 hg
    refine WO.fr ?_
    repeat' (first
      | with_reducible refine QX.next ?_ | with_reducible refine WC.seq ?_ | with_reducible refine WC.region ?_ | with_reducible refine WC.block ?_ | with_reducible refine QX.bnorm ?_ | with_reducible refine QX.bret ?_ | with_reducible refine QX.ret ?_ | with_reducible refine QX.exit ?_ | with_reducible refine QX.bsame ?_ | with_reducible refine QX.bother rfl ?_
      | with_reducible refine WO.nil ?_ | with_reducible refine WC.skip ?_ | with_reducible refine WC.ret ?_ | with_reducible refine WC.exit ?_ | ((with_reducible refine WC.id ?_); first | refine WC.condT rfl ?_ | refine WC.condF rfl ?_)
      | (refine WC.quietG hg ?_; clear hg) | ((with_reducible refine WQ.nilG ?_); intro w hg)
      | ((with_reducible refine WQ.cid ?_); first | refine WQ.xG ?_ | refine WQ.pure ?_)
      | ((with_reducible refine WQ.gid ?_); first | refine WQ.on rfl ?_ | refine WQ.offN rfl rfl ?_)
      | ((with_reducible refine WO.cid ?_); first
        | refine WO.x ?_ | (refine op_alloc hg ?_; clear hg; intro b w hg; refine WO.fr ?_) | (refine op_boxA hg ?_; clear hg; intro b w hg; refine WO.fr ?_) | (refine op_box1 hg ?_; clear hg; intro b w hg; refine WO.fr ?_)
        | (refine op_store hg ?_; clear hg; intro w hg; refine WO.fr ?_; try simp only [List.set_cons_succ, List.set_cons_zero] at hg)
        | (refine op_storeA hg ?_; clear hg; intro w hg; refine WO.fr ?_; try simp only [over, List.take_zero, List.take_succ_cons, List.drop_zero, List.drop_succ_cons, List.nil_append, List.cons_append, List.append_nil, List.length_cons, List.length_nil, Nat.zero_add, Nat.reduceAdd, splice, cellsL] at hg)
        | (refine op_pure hg ?_; clear hg; intro w hg; refine WO.fr ?_) | (refine op_pureB hg ?_; clear hg; intro w hg c hc; cases c <;> refine WO.fr ?_))
      | ((with_reducible refine WO.gid ?_); first | refine WO.on rfl ?_ | refine WO.offN rfl rfl ?_))
    refine op_append hg hO1 (ints_src (hsl.goes hg)) ?_
    clear hg hO1
    intro a1 c1 f1 w hO1 hg
    refine WO.fr ?_
    rw [Nat.zero_add, List.nil_append] at hO1
    repeat' (first
      | with_reducible refine QX.next ?_ | with_reducible refine WC.seq ?_ | with_reducible refine WC.region ?_ | with_reducible refine WC.block ?_ | with_reducible refine QX.bnorm ?_ | with_reducible refine QX.bret ?_ | with_reducible refine QX.ret ?_ | with_reducible refine QX.exit ?_ | with_reducible refine QX.bsame ?_ | with_reducible refine QX.bother rfl ?_
      | with_reducible refine WO.nil ?_ | with_reducible refine WC.skip ?_ | with_reducible refine WC.ret ?_ | with_reducible refine WC.exit ?_ | ((with_reducible refine WC.id ?_); first | refine WC.condT rfl ?_ | refine WC.condF rfl ?_)
      | (refine WC.quietG hg ?_; clear hg) | ((with_reducible refine WQ.nilG ?_); intro w hg)
      | ((with_reducible refine WQ.cid ?_); first | refine WQ.xG ?_ | refine WQ.pure ?_)
      | ((with_reducible refine WQ.gid ?_); first | refine WQ.on rfl ?_ | refine WQ.offN rfl rfl ?_)
      | ((with_reducible refine WO.cid ?_); first
        | refine WO.x ?_ | (refine op_alloc hg ?_; clear hg; intro b w hg; refine WO.fr ?_) | (refine op_boxA hg ?_; clear hg; intro b w hg; refine WO.fr ?_) | (refine op_box1 hg ?_; clear hg; intro b w hg; refine WO.fr ?_)
        | (refine op_store hg ?_; clear hg; intro w hg; refine WO.fr ?_; try simp only [List.set_cons_succ, List.set_cons_zero] at hg)
        | (refine op_storeA hg ?_; clear hg; intro w hg; refine WO.fr ?_; try simp only [over, List.take_zero, List.take_succ_cons, List.drop_zero, List.drop_succ_cons, List.nil_append, List.cons_append, List.append_nil, List.length_cons, List.length_nil, Nat.zero_add, Nat.reduceAdd, splice, cellsL] at hg)
        | (refine op_pure hg ?_; clear hg; intro w hg; refine WO.fr ?_) | (refine op_pureB hg ?_; clear hg; intro w hg c hc; cases c <;> refine WO.fr ?_))
      | ((with_reducible refine WO.gid ?_); first | refine WO.on rfl ?_ | refine WO.offN rfl rfl ?_))
    exact ret1 rfl ⟨a1, c1, f1, rfl, hO1, hg⟩

theorem mClone_spec {bm clock : Nat} {es : Array MapEntry} {w0 : World} (hb : w0.heap[bm]? = some (.map es clock)) :
    Calls Try.prog 48 #[.map (some bm)] w0 fun e w' => ∃ b, e = .returned (.map (some b)) ∧ Goes w0 [] [[(b, .map es clock)]] w' := by
  have hg := Goes.refl w0
  refine enter Try.func48 rfl (by simp only [Try.ntmps48, List.length_cons, List.length_nil, Nat.reduceAdd, Nat.reduceSub, List.replicate_succ, List.replicate_zero, List.cons_append, List.nil_append]; exact rfl) ?_
  repeat' (first
    | with_reducible refine QX.next ?_ | with_reducible refine WC.seq ?_ | with_reducible refine WC.region ?_ | with_reducible refine WC.block ?_ | with_reducible refine QX.bnorm ?_ | with_reducible refine QX.bret ?_ | with_reducible refine QX.ret ?_ | with_reducible refine QX.exit ?_ | with_reducible refine QX.bsame ?_ | with_reducible refine QX.bother rfl ?_
    | with_reducible refine WO.nil ?_ | with_reducible refine WC.skip ?_ | with_reducible refine WC.ret ?_ | with_reducible refine WC.exit ?_ | ((with_reducible refine WC.id ?_); first | refine WC.condT rfl ?_ | refine WC.condF rfl ?_)
    | (refine WC.quietG hg ?_; clear hg) | ((with_reducible refine WQ.nilG ?_); intro w hg)
    | ((with_reducible refine WQ.cid ?_); first | refine WQ.xG ?_ | refine WQ.pure ?_)
    | ((with_reducible refine WQ.gid ?_); first | refine WQ.on rfl ?_ | refine WQ.offN rfl rfl ?_)
    | ((with_reducible refine WO.cid ?_); first
      | refine WO.x ?_ | (refine op_alloc hg ?_; clear hg; intro b w hg; refine WO.fr ?_) | (refine op_boxA hg ?_; clear hg; intro b w hg; refine WO.fr ?_) | (refine op_box1 hg ?_; clear hg; intro b w hg; refine WO.fr ?_)
      | (refine op_store hg ?_; clear hg; intro w hg; refine WO.fr ?_; try simp only [List.set_cons_succ, List.set_cons_zero] at hg)
      | (refine op_storeA hg ?_; clear hg; intro w hg; refine WO.fr ?_; try simp only [over, List.take_zero, List.take_succ_cons, List.drop_zero, List.drop_succ_cons, List.nil_append, List.cons_append, List.append_nil, List.length_cons, List.length_nil, Nat.zero_add, Nat.reduceAdd, splice, cellsL] at hg)
      | (refine op_pure hg ?_; clear hg; intro w hg; refine WO.fr ?_) | (refine op_pureB hg ?_; clear hg; intro w hg c hc; cases c <;> refine WO.fr ?_))
    | ((with_reducible refine WO.gid ?_); first | refine WO.on rfl ?_ | refine WO.offN rfl rfl ?_))
  refine op_mkIface ?_
  refine WO.fr ?_
  refine op_cloneM Try.func72 (by kernel_rfl) (by kernel_rfl) (by kernel_rfl) (by kernel_rfl) hg ((hg.old bm (Array.getElem?_eq_some_iff.1 hb).1 (by simp)).trans hb) ?_
  clear hg
  intro b w hg
  refine WO.fr ?_
  refine op_assertMap ?_
  refine WO.fr ?_
  repeat' (first
    | with_reducible refine QX.next ?_ | with_reducible refine WC.seq ?_ | with_reducible refine WC.region ?_ | with_reducible refine WC.block ?_ | with_reducible refine QX.bnorm ?_ | with_reducible refine QX.bret ?_ | with_reducible refine QX.ret ?_ | with_reducible refine QX.exit ?_ | with_reducible refine QX.bsame ?_ | with_reducible refine QX.bother rfl ?_
    | with_reducible refine WO.nil ?_ | with_reducible refine WC.skip ?_ | with_reducible refine WC.ret ?_ | with_reducible refine WC.exit ?_ | ((with_reducible refine WC.id ?_); first | refine WC.condT rfl ?_ | refine WC.condF rfl ?_)
    | (refine WC.quietG hg ?_; clear hg) | ((with_reducible refine WQ.nilG ?_); intro w hg)
    | ((with_reducible refine WQ.cid ?_); first | refine WQ.xG ?_ | refine WQ.pure ?_)
    | ((with_reducible refine WQ.gid ?_); first | refine WQ.on rfl ?_ | refine WQ.offN rfl rfl ?_)
    | ((with_reducible refine WO.cid ?_); first
      | refine WO.x ?_ | (refine op_alloc hg ?_; clear hg; intro b w hg; refine WO.fr ?_) | (refine op_boxA hg ?_; clear hg; intro b w hg; refine WO.fr ?_) | (refine op_box1 hg ?_; clear hg; intro b w hg; refine WO.fr ?_)
      | (refine op_store hg ?_; clear hg; intro w hg; refine WO.fr ?_; try simp only [List.set_cons_succ, List.set_cons_zero] at hg)
      | (refine op_storeA hg ?_; clear hg; intro w hg; refine WO.fr ?_; try simp only [over, List.take_zero, List.take_succ_cons, List.drop_zero, List.drop_succ_cons, List.nil_append, List.cons_append, List.append_nil, List.length_cons, List.length_nil, Nat.zero_add, Nat.reduceAdd, splice, cellsL] at hg)
      | (refine op_pure hg ?_; clear hg; intro w hg; refine WO.fr ?_) | (refine op_pureB hg ?_; clear hg; intro w hg c hc; cases c <;> refine WO.fr ?_))
    | ((with_reducible refine WO.gid ?_); first | refine WO.on rfl ?_ | refine WO.offN rfl rfl ?_))
  exact ret1 rfl ⟨b, rfl, hg⟩

theorem Goes.copyUp {w0 w : World} {M : List Nat} {a b c d e f g h : Frag} (hg : Goes w0 M [a, d, b, c, e, f, g, h] w) : Goes w0 M [a ++ ((b ++ c) ++ d), e ++ ((f ++ g) ++ h)] w := by
  refine hg.perm ?_
  simp only [List.flatten_cons, List.flatten_nil, List.append_nil, List.append_assoc]
  refine List.Perm.append_left a ?_
  have := (List.perm_append_comm (l₁ := b ++ c) (l₂ := d)).append_right (e ++ (f ++ (g ++ h)))
  simpa only [List.append_assoc] using this

set_option maxHeartbeats 2000000 in
theorem CCopy_spec {pc : Nat} {room : Int} {m : List (Int × Ent)} {h : List Int} {f : Frag} {w0 : World} (hO : Owns w0 f) (hF : CacheF pc room m h f) (hn : h.length ≤ 900000) :
    Calls Try.prog 22 #[.pointer (some ⟨pc, 0, none⟩)] w0 fun e w' => ∃ pc' f', e = .returned (.pointer (some ⟨pc', 0, none⟩)) ∧ CacheF pc' room m h f' ∧ Goes w0 (keys f) [f', f] w' := by
  obtain ⟨ph, bm, clock, es, fh, rfl, ⟨ah, ch, fr, rfl, hW⟩, hm⟩ := hF
  have hg := hO.goes.three
  replace hg : Goes w0 _ [[(pc, .cells [.int .i64 room, .map (some bm), .pointer (some ⟨ph, 0, none⟩)].toArray 54 (0, 0))], [(ph, .cells [.slice ah h.length ch].toArray 85 (0, 0))], fr, [(bm, .map es clock)]] w0 := hg.perm (by simp)
  have p1 : ∀ {w}, Goes w0 (keys ([(pc, .cells [.int .i64 room, .map (some bm), .pointer (some ⟨ph, 0, none⟩)].toArray 54 (0, 0))] ++ ([(ph, .cells [.slice ah h.length ch].toArray 85 (0, 0))] ++ fr ++ [(bm, .map es clock)]))) [[(pc, .cells [.int .i64 room, .map (some bm), .pointer (some ⟨ph, 0, none⟩)].toArray 54 (0, 0))], [(ph, .cells [.slice ah h.length ch].toArray 85 (0, 0))], fr, [(bm, .map es clock)]] w → Calls Try.prog 43 #[.pointer (some ⟨pc, 0, none⟩)] w _ := fun g => cmade_spec (heap_cell (g.own (pc, .cells [.int .i64 room, .map (some bm), .pointer (some ⟨ph, 0, none⟩)].toArray 54 (0, 0)) (by simp)) rfl)
  refine enter Try.func22 rfl (by simp only [Try.ntmps22, List.length_cons, List.length_nil, Nat.reduceAdd, Nat.reduceSub, List.replicate_succ, List.replicate_zero, List.cons_append, List.nil_append]; exact rfl) ?_
  repeat' (first
    | with_reducible refine QX.next ?_ | with_reducible refine WC.seq ?_ | with_reducible refine WC.region ?_ | with_reducible refine WC.block ?_ | with_reducible refine QX.bnorm ?_ | with_reducible refine QX.bret ?_ | with_reducible refine QX.ret ?_ | with_reducible refine QX.exit ?_ | with_reducible refine QX.bsame ?_ | with_reducible refine QX.bother rfl ?_
    | with_reducible refine WO.nil ?_ | with_reducible refine WC.skip ?_ | with_reducible refine WC.ret ?_ | with_reducible refine WC.exit ?_ | ((with_reducible refine WC.id ?_); first | refine WC.condT rfl ?_ | refine WC.condF rfl ?_)
    | (refine WC.quietG hg ?_; clear hg) | ((with_reducible refine WQ.nilG ?_); intro w hg)
    | ((with_reducible refine WQ.cid ?_); first | refine WQ.xG ?_ | refine WQ.pure ?_)
    | ((with_reducible refine WQ.gid ?_); first | refine WQ.on rfl ?_ | refine WQ.offN rfl rfl ?_)
    | ((with_reducible refine WO.cid ?_); first
      | refine WO.x ?_ | (refine op_alloc hg ?_; clear hg; intro b w hg; refine WO.fr ?_) | (refine op_boxA hg ?_; clear hg; intro b w hg; refine WO.fr ?_) | (refine op_box1 hg ?_; clear hg; intro b w hg; refine WO.fr ?_)
      | (refine op_store hg ?_; clear hg; intro w hg; refine WO.fr ?_; try simp only [List.set_cons_succ, List.set_cons_zero] at hg)
      | (refine op_storeA hg ?_; clear hg; intro w hg; refine WO.fr ?_; try simp only [over, List.take_zero, List.take_succ_cons, List.drop_zero, List.drop_succ_cons, List.nil_append, List.cons_append, List.append_nil, List.length_cons, List.length_nil, Nat.zero_add, Nat.reduceAdd, splice, cellsL] at hg)
      | (refine op_pure hg ?_; clear hg; intro w hg; refine WO.fr ?_) | (refine op_pureB hg ?_; clear hg; intro w hg c hc; cases c <;> refine WO.fr ?_))
    | ((with_reducible refine WO.gid ?_); first | refine WO.on rfl ?_ | refine WO.offN rfl rfl ?_))
  refine op_call (sClone_spec hW (hg.front 2).owns1 (by omega)) ?_
  rintro _ w2 ⟨a2, c2, f2, rfl, hW2, hg2⟩
  replace hg := hg.call0 hg2
  simp only [List.cons_append, List.nil_append] at hg
  clear hg2
  refine ⟨_, rfl, ?_⟩
  refine WO.fr ?_
  repeat' (first
    | with_reducible refine QX.next ?_ | with_reducible refine WC.seq ?_ | with_reducible refine WC.region ?_ | with_reducible refine WC.block ?_ | with_reducible refine QX.bnorm ?_ | with_reducible refine QX.bret ?_ | with_reducible refine QX.ret ?_ | with_reducible refine QX.exit ?_ | with_reducible refine QX.bsame ?_ | with_reducible refine QX.bother rfl ?_
    | with_reducible refine WO.nil ?_ | with_reducible refine WC.skip ?_ | with_reducible refine WC.ret ?_ | with_reducible refine WC.exit ?_ | ((with_reducible refine WC.id ?_); first | refine WC.condT rfl ?_ | refine WC.condF rfl ?_)
    | ((with_reducible refine WQ.cid ?_); first | refine WQ.xG ?_ | refine WQ.pure ?_)
    | ((with_reducible refine WQ.gid ?_); first | refine WQ.on rfl ?_ | refine WQ.offN rfl rfl ?_)
    | ((with_reducible refine WO.cid ?_); first
      | refine WO.x ?_ | (refine op_alloc hg ?_; clear hg; intro b w hg; refine WO.fr ?_) | (refine op_boxA hg ?_; clear hg; intro b w hg; refine WO.fr ?_) | (refine op_box1 hg ?_; clear hg; intro b w hg; refine WO.fr ?_)
      | (refine op_store hg ?_; clear hg; intro w hg; refine WO.fr ?_; try simp only [List.set_cons_succ, List.set_cons_zero] at hg)
      | (refine op_storeA hg ?_; clear hg; intro w hg; refine WO.fr ?_; try simp only [over, List.take_zero, List.take_succ_cons, List.drop_zero, List.drop_succ_cons, List.nil_append, List.cons_append, List.append_nil, List.length_cons, List.length_nil, Nat.zero_add, Nat.reduceAdd, splice, cellsL] at hg)
      | (refine op_pure hg ?_; clear hg; intro w hg; refine WO.fr ?_) | (refine op_pureB hg ?_; clear hg; intro w hg c hc; cases c <;> refine WO.fr ?_))
    | ((with_reducible refine WO.gid ?_); first | refine WO.on rfl ?_ | refine WO.offN rfl rfl ?_))
  have s1 : ∀ {w : World}, (w.heap[pc]? = some (.cells [.int .i64 room, .map (some bm), .pointer (some ⟨ph, 0, none⟩)].toArray 54 (0, 0))) → w.cell? ⟨pc, 0, none⟩ = some (.int .i64 room) := fun h => heap_cell h rfl
  have s2 : ∀ {w : World}, (w.heap[pc]? = some (.cells [.int .i64 room, .map (some bm), .pointer (some ⟨ph, 0, none⟩)].toArray 54 (0, 0))) → w.cell? ⟨pc, 1, none⟩ = some (.map (some bm)) := fun h => heap_cell h rfl
  refine WC.drawn (fun w => w.heap[pc]? = some (.cells [.int .i64 room, .map (some bm), .pointer (some ⟨ph, 0, none⟩)].toArray 54 (0, 0))) [] hg ?_
  clear hg
  intro w hg
  have hS : (fun w => w.heap[pc]? = some (.cells [.int .i64 room, .map (some bm), .pointer (some ⟨ph, 0, none⟩)].toArray 54 (0, 0))) w := hg.own (pc, .cells [.int .i64 room, .map (some bm), .pointer (some ⟨ph, 0, none⟩)].toArray 54 (0, 0)) (by simp)
  refine WA.passM 0 hS ?_
  refine WA.passM 1 hS ?_
  refine WA.passM 2 hS ?_
  refine WA.passM 4 hS ?_
  refine WA.passM 5 hS ?_
  refine WA.passM 6 hS ?_
  refine WA.passM 3 hS ?_
  refine WA.passM 7 hS ?_
  refine WA.only 8 ?_
  refine op_call (mClone_spec (hg.own (bm, .map es clock) (by simp))) ?_
  rintro _ w ⟨b2, rfl, hg2⟩
  replace hg := hg.call0 hg2
  simp only [List.cons_append, List.nil_append] at hg
  clear hg2 hS
  refine ⟨_, rfl, ?_⟩
  refine WO.fr ?_
  have hS : (fun w => w.heap[pc]? = some (.cells [.int .i64 room, .map (some bm), .pointer (some ⟨ph, 0, none⟩)].toArray 54 (0, 0))) w := hg.own (pc, .cells [.int .i64 room, .map (some bm), .pointer (some ⟨ph, 0, none⟩)].toArray 54 (0, 0)) (by simp)
  refine WO.nilA hS ?_
  refine WA.passM 9 hS ?_
  refine WA.only 10 ?_
  refine op_boxA hg ?_
  clear hg hS
  intro bc w hg
  refine WO.fr ?_
  have hS : (fun w => w.heap[pc]? = some (.cells [.int .i64 room, .map (some bm), .pointer (some ⟨ph, 0, none⟩)].toArray 54 (0, 0))) w := hg.own (pc, .cells [.int .i64 room, .map (some bm), .pointer (some ⟨ph, 0, none⟩)].toArray 54 (0, 0)) (by simp)
  refine WO.nilA hS ?_
  refine WA.passM 11 hS ?_
  refine WA.nil ?_
  repeat' (first
    | with_reducible refine QX.next ?_ | with_reducible refine WC.seq ?_ | with_reducible refine WC.region ?_ | with_reducible refine WC.block ?_ | with_reducible refine QX.bnorm ?_ | with_reducible refine QX.bret ?_ | with_reducible refine QX.ret ?_ | with_reducible refine QX.exit ?_ | with_reducible refine QX.bsame ?_ | with_reducible refine QX.bother rfl ?_
    | with_reducible refine WO.nil ?_ | with_reducible refine WC.skip ?_ | with_reducible refine WC.ret ?_ | with_reducible refine WC.exit ?_ | ((with_reducible refine WC.id ?_); first | refine WC.condT rfl ?_ | refine WC.condF rfl ?_)
    | ((with_reducible refine WQ.cid ?_); first | refine WQ.xG ?_ | refine WQ.pure ?_)
    | ((with_reducible refine WQ.gid ?_); first | refine WQ.on rfl ?_ | refine WQ.offN rfl rfl ?_)
    | ((with_reducible refine WO.cid ?_); first
      | refine WO.x ?_ | (refine op_alloc hg ?_; clear hg; intro b w hg; refine WO.fr ?_) | (refine op_boxA hg ?_; clear hg; intro b w hg; refine WO.fr ?_) | (refine op_box1 hg ?_; clear hg; intro b w hg; refine WO.fr ?_)
      | (refine op_store hg ?_; clear hg; intro w hg; refine WO.fr ?_; try simp only [List.set_cons_succ, List.set_cons_zero] at hg)
      | (refine op_storeA hg ?_; clear hg; intro w hg; refine WO.fr ?_; try simp only [over, List.take_zero, List.take_succ_cons, List.drop_zero, List.drop_succ_cons, List.nil_append, List.cons_append, List.append_nil, List.length_cons, List.length_nil, Nat.zero_add, Nat.reduceAdd, splice, cellsL] at hg)
      | (refine op_pure hg ?_; clear hg; intro w hg; refine WO.fr ?_) | (refine op_pureB hg ?_; clear hg; intro w hg c hc; cases c <;> refine WO.fr ?_))
    | ((with_reducible refine WO.gid ?_); first | refine WO.on rfl ?_ | refine WO.offN rfl rfl ?_))
  exact ret1 rfl ⟨bc, _, rfl, ⟨b, b2, clock, es, _, rfl, ⟨a2, c2, f2, rfl, hW2⟩, hm⟩, hg.copyUp⟩
theorem CCopy_no (w0 : World) : Calls Try.prog 22 #[.pointer none] w0 fun e w' => e = .returned (.pointer none) ∧ Goes w0 [] [] w' := by
  have hg := Goes.refl w0
  have p1 := cmade_nil
  refine enter Try.func22 rfl (by simp only [Try.ntmps22, List.length_cons, List.length_nil, Nat.reduceAdd, Nat.reduceSub, List.replicate_succ, List.replicate_zero, List.cons_append, List.nil_append]; exact rfl) ?_
  repeat' (first
    | with_reducible refine QX.next ?_ | with_reducible refine WC.seq ?_ | with_reducible refine WC.region ?_ | with_reducible refine WC.block ?_ | with_reducible refine QX.bnorm ?_ | with_reducible refine QX.bret ?_ | with_reducible refine QX.ret ?_ | with_reducible refine QX.exit ?_ | with_reducible refine QX.bsame ?_ | with_reducible refine QX.bother rfl ?_
    | with_reducible refine WO.nil ?_ | with_reducible refine WC.skip ?_ | with_reducible refine WC.ret ?_ | with_reducible refine WC.exit ?_ | ((with_reducible refine WC.id ?_); first | refine WC.condT rfl ?_ | refine WC.condF rfl ?_)
    | (refine WC.quietG hg ?_; clear hg) | ((with_reducible refine WQ.nilG ?_); intro w hg)
    | ((with_reducible refine WQ.cid ?_); first | refine WQ.xG ?_ | refine WQ.pure ?_)
    | ((with_reducible refine WQ.gid ?_); first | refine WQ.on rfl ?_ | refine WQ.offN rfl rfl ?_)
    | ((with_reducible refine WO.cid ?_); first
      | refine WO.x ?_ | (refine op_alloc hg ?_; clear hg; intro b w hg; refine WO.fr ?_) | (refine op_boxA hg ?_; clear hg; intro b w hg; refine WO.fr ?_) | (refine op_box1 hg ?_; clear hg; intro b w hg; refine WO.fr ?_)
      | (refine op_store hg ?_; clear hg; intro w hg; refine WO.fr ?_; try simp only [List.set_cons_succ, List.set_cons_zero] at hg)
      | (refine op_storeA hg ?_; clear hg; intro w hg; refine WO.fr ?_; try simp only [over, List.take_zero, List.take_succ_cons, List.drop_zero, List.drop_succ_cons, List.nil_append, List.cons_append, List.append_nil, List.length_cons, List.length_nil, Nat.zero_add, Nat.reduceAdd, splice, cellsL] at hg)
      | (refine op_pure hg ?_; clear hg; intro w hg; refine WO.fr ?_) | (refine op_pureB hg ?_; clear hg; intro w hg c hc; cases c <;> refine WO.fr ?_))
    | ((with_reducible refine WO.gid ?_); first | refine WO.on rfl ?_ | refine WO.offN rfl rfl ?_))
  exact ret1 rfl ⟨rfl, hg.drop⟩
end Go.Proofs.Ytdjepfpmoeecaaa
