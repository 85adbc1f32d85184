/- history: the log as it lies, New, made, put, deed. -/
import Derived.Test.YtlomipcjkkjhiaaFacts
import Derived.Test.YtlomipcjkkjhiaaDrawn
import Derived.Test.YtlomipcjkkjhiaaGrow
import Derived.Test.YtlomipcjkkjhiaaMaps
namespace Go.Proofs.Ytlomipcjkkjhiaa
open Go Go.RowKit
set_option maxRecDepth 10000
set_option linter.unusedSimpArgs false
set_option linter.unusedVariables false

structure AOp where
  kind : Int
  n : Int
  data : ByteArray
  deriving DecidableEq
structure Res where
  e : Int
  n : Int
  k1 : Int
  k2 : Int
  k3 : Int
  k4 : Int
  k5 : Int
  k6 : Int
  deriving DecidableEq
structure Ev where
  kind : Int
  id : Int
  client : Int
  op : AOp
  res : Res
  deriving DecidableEq
structure Deed where
  client : Int
  op : AOp
  res : Res
  how : Int
def AOp.enc (o : AOp) : List Value := [.int .i64 o.kind, .int .i64 o.n, .string o.data]
def Res.enc (r : Res) : List Value := [.int .i64 r.e, .int .i64 r.n, .int .i64 r.k1, .int .i64 r.k2, .int .i64 r.k3, .int .i64 r.k4, .int .i64 r.k5, .int .i64 r.k6]
def Ev.enc (v : Ev) : List Value := [.int .i64 v.kind, .int .i64 v.id, .int .i64 v.client, .int .i64 v.op.kind, .int .i64 v.op.n, .string v.op.data, .int .i64 v.res.e, .int .i64 v.res.n, .int .i64 v.res.k1, .int .i64 v.res.k2, .int .i64 v.res.k3, .int .i64 v.res.k4, .int .i64 v.res.k5, .int .i64 v.res.k6]
def Deed.enc (v : Deed) : List Value := [.int .i64 v.client, .int .i64 v.op.kind, .int .i64 v.op.n, .string v.op.data, .int .i64 v.res.e, .int .i64 v.res.n, .int .i64 v.res.k1, .int .i64 v.res.k2, .int .i64 v.res.k3, .int .i64 v.res.k4, .int .i64 v.res.k5, .int .i64 v.res.k6, .int .i64 v.how]
def Res.none : Res := ⟨0, 0, 0, 0, 0, 0, 0, 0⟩
def Res.busy : Res := ⟨17, 0, 0, 0, 0, 0, 0, 0⟩

/-- A log. -/
structure LogS where
  events : List Ev
  deeds : List Deed
  of : List (Int × Int)

/-- How it lies: itself; its events; its deeds; its map. -/
inductive LogAt (pl : Nat) (L : LogS) : Frag → Frag → Frag → Frag → Prop
  | mk {ae ad : Option Addr} {ce cd bm clock : Nat} {es : Array MapEntry} {fe fd : Frag} (he : Own 58 14 ae L.events.length ce (L.events.map Ev.enc).flatten fe) (hd : Own 61 13 ad L.deeds.length cd (L.deeds.map Deed.enc).flatten fd) (hm : MapIs es clock L.of) :
    LogAt pl L [(pl, .cells [.slice ae L.events.length ce, .slice ad L.deeds.length cd, .map (some bm)].toArray 55 (0, 0))] fe fd [(bm, .map es clock)]
def LogF (pl : Nat) (L : LogS) (h : Frag) : Prop := ∃ fl fe fd fm, h = fl ++ (fe ++ (fd ++ fm)) ∧ LogAt pl L fl fe fd fm

theorem Ev.enc_len (e : Ev) : e.enc.length = 14 := rfl
theorem Deed.enc_len (e : Deed) : e.enc.length = 13 := rfl

/-- Four fragments out of one. -/
theorem Goes.four {w0 w : World} {M : List Nat} {a b c d : Frag} {Fs : List Frag} (hg : Goes w0 M ((a ++ (b ++ (c ++ d))) :: Fs) w) : Goes w0 M (a :: b :: c :: d :: Fs) w := hg.perm (by simp)
theorem Goes.unfour {w0 w : World} {M : List Nat} {a b c d : Frag} {Fs : List Frag} (hg : Goes w0 M (a :: b :: c :: d :: Fs) w) : Goes w0 M ((a ++ (b ++ (c ++ d))) :: Fs) w := hg.perm (by simp)

theorem Goes.callF {w0 w w' : World} {M : List Nat} {h h' : Frag} {Fs : List Frag} (hg : Goes w0 M (h :: Fs) w) (hc : Goes w (keys h) [h'] w') : Goes w0 M (h' :: Fs) w' := hg.call1 hc

theorem New_spec (w0 : World) : Calls Try.prog 9 #[] w0 fun e w' => ∃ pl h, e = .returned (.pointer (some ⟨pl, 0, none⟩)) ∧ LogF pl ⟨[], [], []⟩ h ∧ Goes w0 [] [h] w' := by
  have hg := Goes.refl w0
  refine enter Try.func9 rfl (by simp only [Try.ntmps9, List.length_cons, List.length_nil, Nat.reduceAdd, Nat.reduceSub, List.replicate_succ, List.replicate_zero, List.cons_append, List.nil_append]; exact rfl) ?_
  repeat' (first
    | with_reducible refine QX.next ?_ | with_reducible refine WC.seq ?_ | with_reducible refine WC.region ?_ | with_reducible refine WC.block ?_ | with_reducible refine QX.bnorm ?_ | with_reducible refine QX.bret ?_ | with_reducible refine QX.ret ?_ | with_reducible refine QX.exit ?_ | with_reducible refine QX.bsame ?_ | with_reducible refine QX.bother rfl ?_
    | with_reducible refine WO.nil ?_ | with_reducible refine WC.skip ?_ | with_reducible refine WC.ret ?_ | with_reducible refine WC.exit ?_ | ((with_reducible refine WC.id ?_); first | refine WC.condT rfl ?_ | refine WC.condF rfl ?_)
    | (refine WC.quietG hg ?_; clear hg) | ((with_reducible refine WQ.nilG ?_); intro w hg)
    | ((with_reducible refine WQ.cid ?_); first | refine WQ.xG ?_ | refine WQ.pure ?_)
    | ((with_reducible refine WQ.gid ?_); first | refine WQ.on rfl ?_ | refine WQ.offN rfl rfl ?_)
    | ((with_reducible refine WO.cid ?_); first
      | refine WO.x ?_ | (refine op_alloc hg ?_; clear hg; intro b w hg; refine WO.fr ?_) | (refine op_boxA hg ?_; clear hg; intro b w hg; refine WO.fr ?_) | (refine op_box1 hg ?_; clear hg; intro b w hg; refine WO.fr ?_)
      | (refine op_store hg ?_; clear hg; intro w hg; refine WO.fr ?_; try simp only [List.set_cons_succ, List.set_cons_zero] at hg)
      | (refine op_storeA hg ?_; clear hg; intro w hg; refine WO.fr ?_; try simp only [over, List.take_zero, List.take_succ_cons, List.drop_zero, List.drop_succ_cons, List.nil_append, List.cons_append, List.append_nil, List.length_cons, List.length_nil, Nat.zero_add, Nat.reduceAdd, splice, cellsL] at hg)
      | (refine op_pure hg ?_; clear hg; intro w hg; refine WO.fr ?_) | (refine op_pureB hg ?_; clear hg; intro w hg c hc; cases c <;> refine WO.fr ?_))
    | ((with_reducible refine WO.gid ?_); first | refine WO.on rfl ?_ | refine WO.offN rfl rfl ?_))
  refine op_makeMap hg ?_
  clear hg
  intro bm w hg
  refine WO.fr ?_
  repeat' (first
    | with_reducible refine QX.next ?_ | with_reducible refine WC.seq ?_ | with_reducible refine WC.region ?_ | with_reducible refine WC.block ?_ | with_reducible refine QX.bnorm ?_ | with_reducible refine QX.bret ?_ | with_reducible refine QX.ret ?_ | with_reducible refine QX.exit ?_ | with_reducible refine QX.bsame ?_ | with_reducible refine QX.bother rfl ?_
    | with_reducible refine WO.nil ?_ | with_reducible refine WC.skip ?_ | with_reducible refine WC.ret ?_ | with_reducible refine WC.exit ?_ | ((with_reducible refine WC.id ?_); first | refine WC.condT rfl ?_ | refine WC.condF rfl ?_)
    | (refine WC.quietG hg ?_; clear hg) | ((with_reducible refine WQ.nilG ?_); intro w hg)
    | ((with_reducible refine WQ.cid ?_); first | refine WQ.xG ?_ | refine WQ.pure ?_)
    | ((with_reducible refine WQ.gid ?_); first | refine WQ.on rfl ?_ | refine WQ.offN rfl rfl ?_)
    | ((with_reducible refine WO.cid ?_); first
      | refine WO.x ?_ | (refine op_alloc hg ?_; clear hg; intro b w hg; refine WO.fr ?_) | (refine op_boxA hg ?_; clear hg; intro b w hg; refine WO.fr ?_) | (refine op_box1 hg ?_; clear hg; intro b w hg; refine WO.fr ?_)
      | (refine op_store hg ?_; clear hg; intro w hg; refine WO.fr ?_; try simp only [List.set_cons_succ, List.set_cons_zero] at hg)
      | (refine op_storeA hg ?_; clear hg; intro w hg; refine WO.fr ?_; try simp only [over, List.take_zero, List.take_succ_cons, List.drop_zero, List.drop_succ_cons, List.nil_append, List.cons_append, List.append_nil, List.length_cons, List.length_nil, Nat.zero_add, Nat.reduceAdd, splice, cellsL] at hg)
      | (refine op_pure hg ?_; clear hg; intro w hg; refine WO.fr ?_) | (refine op_pureB hg ?_; clear hg; intro w hg c hc; cases c <;> refine WO.fr ?_))
    | ((with_reducible refine WO.gid ?_); first | refine WO.on rfl ?_ | refine WO.offN rfl rfl ?_))
  exact ret1 rfl ⟨b, [(b, .cells [.slice none 0 0, .slice none 0 0, .map (some bm)].toArray 55 (0, 0))] ++ ([] ++ ([] ++ [(bm, .map #[] 0)])), rfl, ⟨_, _, _, _, rfl, .mk .nil .nil (.empty 0)⟩, hg.perm (by simp)⟩

theorem made_spec {pl bm : Nat} {w : World} (hc : w.cell? ⟨pl, 2, none⟩ = some (.map (some bm))) : Calls Try.prog 31 #[.pointer (some ⟨pl, 0, none⟩)] w fun e w' => e = .returned (.bool true) ∧ Goes w [] [] w' := by
  have hg := Goes.refl w
  have c1 : ∀ {w' Fs}, Goes w [] Fs w' → w'.cell? ⟨pl, 2, none⟩ = some (.map (some bm)) := fun h => h.cellOld0 hc
  refine enter Try.func31 rfl (by simp only [Try.ntmps31, List.length_cons, List.length_nil, Nat.reduceAdd, Nat.reduceSub, List.replicate_succ, List.replicate_zero, List.cons_append, List.nil_append]; exact rfl) ?_
  repeat' (first
    | with_reducible refine QX.next ?_ | with_reducible refine WC.seq ?_ | with_reducible refine WC.region ?_ | with_reducible refine WC.block ?_ | with_reducible refine QX.bnorm ?_ | with_reducible refine QX.bret ?_ | with_reducible refine QX.ret ?_ | with_reducible refine QX.exit ?_ | with_reducible refine QX.bsame ?_ | with_reducible refine QX.bother rfl ?_
    | with_reducible refine WO.nil ?_ | with_reducible refine WC.skip ?_ | with_reducible refine WC.ret ?_ | with_reducible refine WC.exit ?_ | ((with_reducible refine WC.id ?_); first | refine WC.condT rfl ?_ | refine WC.condF rfl ?_)
    | (refine WC.quietG hg ?_; clear hg) | ((with_reducible refine WQ.nilG ?_); intro w hg)
    | ((with_reducible refine WQ.cid ?_); first | refine WQ.xG ?_ | refine WQ.pure ?_)
    | ((with_reducible refine WQ.gid ?_); first | refine WQ.on rfl ?_ | refine WQ.offN rfl rfl ?_)
    | ((with_reducible refine WO.cid ?_); first
      | refine WO.x ?_ | (refine op_alloc hg ?_; clear hg; intro b w hg; refine WO.fr ?_) | (refine op_boxA hg ?_; clear hg; intro b w hg; refine WO.fr ?_) | (refine op_box1 hg ?_; clear hg; intro b w hg; refine WO.fr ?_)
      | (refine op_store hg ?_; clear hg; intro w hg; refine WO.fr ?_; try simp only [List.set_cons_succ, List.set_cons_zero] at hg)
      | (refine op_storeA hg ?_; clear hg; intro w hg; refine WO.fr ?_; try simp only [over, List.take_zero, List.take_succ_cons, List.drop_zero, List.drop_succ_cons, List.nil_append, List.cons_append, List.append_nil, List.length_cons, List.length_nil, Nat.zero_add, Nat.reduceAdd, splice, cellsL] at hg)
      | (refine op_pure hg ?_; clear hg; intro w hg; refine WO.fr ?_) | (refine op_pureB hg ?_; clear hg; intro w hg c hc; cases c <;> refine WO.fr ?_))
    | ((with_reducible refine WO.gid ?_); first | refine WO.on rfl ?_ | refine WO.offN rfl rfl ?_))
  exact ret1 rfl ⟨rfl, hg.drop⟩
theorem made_nil (w : World) : Calls Try.prog 31 #[.pointer none] w fun e w' => e = .returned (.bool false) ∧ Goes w [] [] w' := by
  have hg := Goes.refl w
  refine enter Try.func31 rfl (by simp only [Try.ntmps31, List.length_cons, List.length_nil, Nat.reduceAdd, Nat.reduceSub, List.replicate_succ, List.replicate_zero, List.cons_append, List.nil_append]; exact rfl) ?_
  repeat' (first
    | with_reducible refine QX.next ?_ | with_reducible refine WC.seq ?_ | with_reducible refine WC.region ?_ | with_reducible refine WC.block ?_ | with_reducible refine QX.bnorm ?_ | with_reducible refine QX.bret ?_ | with_reducible refine QX.ret ?_ | with_reducible refine QX.exit ?_ | with_reducible refine QX.bsame ?_ | with_reducible refine QX.bother rfl ?_
    | with_reducible refine WO.nil ?_ | with_reducible refine WC.skip ?_ | with_reducible refine WC.ret ?_ | with_reducible refine WC.exit ?_ | ((with_reducible refine WC.id ?_); first | refine WC.condT rfl ?_ | refine WC.condF rfl ?_)
    | (refine WC.quietG hg ?_; clear hg) | ((with_reducible refine WQ.nilG ?_); intro w hg)
    | ((with_reducible refine WQ.cid ?_); first | refine WQ.xG ?_ | refine WQ.pure ?_)
    | ((with_reducible refine WQ.gid ?_); first | refine WQ.on rfl ?_ | refine WQ.offN rfl rfl ?_)
    | ((with_reducible refine WO.cid ?_); first
      | refine WO.x ?_ | (refine op_alloc hg ?_; clear hg; intro b w hg; refine WO.fr ?_) | (refine op_boxA hg ?_; clear hg; intro b w hg; refine WO.fr ?_) | (refine op_box1 hg ?_; clear hg; intro b w hg; refine WO.fr ?_)
      | (refine op_store hg ?_; clear hg; intro w hg; refine WO.fr ?_; try simp only [List.set_cons_succ, List.set_cons_zero] at hg)
      | (refine op_storeA hg ?_; clear hg; intro w hg; refine WO.fr ?_; try simp only [over, List.take_zero, List.take_succ_cons, List.drop_zero, List.drop_succ_cons, List.nil_append, List.cons_append, List.append_nil, List.length_cons, List.length_nil, Nat.zero_add, Nat.reduceAdd, splice, cellsL] at hg)
      | (refine op_pure hg ?_; clear hg; intro w hg; refine WO.fr ?_) | (refine op_pureB hg ?_; clear hg; intro w hg c hc; cases c <;> refine WO.fr ?_))
    | ((with_reducible refine WO.gid ?_); first | refine WO.on rfl ?_ | refine WO.offN rfl rfl ?_))
  exact ret1 rfl ⟨rfl, hg.drop⟩
theorem made_zero {pl : Nat} {w : World} (hc : w.cell? ⟨pl, 2, none⟩ = some (.map none)) : Calls Try.prog 31 #[.pointer (some ⟨pl, 0, none⟩)] w fun e w' => e = .returned (.bool false) ∧ Goes w [] [] w' := by
  have hg := Goes.refl w
  have c1 : ∀ {w' Fs}, Goes w [] Fs w' → w'.cell? ⟨pl, 2, none⟩ = some (.map none) := fun h => h.cellOld0 hc
  refine enter Try.func31 rfl (by simp only [Try.ntmps31, List.length_cons, List.length_nil, Nat.reduceAdd, Nat.reduceSub, List.replicate_succ, List.replicate_zero, List.cons_append, List.nil_append]; exact rfl) ?_
  repeat' (first
    | with_reducible refine QX.next ?_ | with_reducible refine WC.seq ?_ | with_reducible refine WC.region ?_ | with_reducible refine WC.block ?_ | with_reducible refine QX.bnorm ?_ | with_reducible refine QX.bret ?_ | with_reducible refine QX.ret ?_ | with_reducible refine QX.exit ?_ | with_reducible refine QX.bsame ?_ | with_reducible refine QX.bother rfl ?_
    | with_reducible refine WO.nil ?_ | with_reducible refine WC.skip ?_ | with_reducible refine WC.ret ?_ | with_reducible refine WC.exit ?_ | ((with_reducible refine WC.id ?_); first | refine WC.condT rfl ?_ | refine WC.condF rfl ?_)
    | (refine WC.quietG hg ?_; clear hg) | ((with_reducible refine WQ.nilG ?_); intro w hg)
    | ((with_reducible refine WQ.cid ?_); first | refine WQ.xG ?_ | refine WQ.pure ?_)
    | ((with_reducible refine WQ.gid ?_); first | refine WQ.on rfl ?_ | refine WQ.offN rfl rfl ?_)
    | ((with_reducible refine WO.cid ?_); first
      | refine WO.x ?_ | (refine op_alloc hg ?_; clear hg; intro b w hg; refine WO.fr ?_) | (refine op_boxA hg ?_; clear hg; intro b w hg; refine WO.fr ?_) | (refine op_box1 hg ?_; clear hg; intro b w hg; refine WO.fr ?_)
      | (refine op_store hg ?_; clear hg; intro w hg; refine WO.fr ?_; try simp only [List.set_cons_succ, List.set_cons_zero] at hg)
      | (refine op_storeA hg ?_; clear hg; intro w hg; refine WO.fr ?_; try simp only [over, List.take_zero, List.take_succ_cons, List.drop_zero, List.drop_succ_cons, List.nil_append, List.cons_append, List.append_nil, List.length_cons, List.length_nil, Nat.zero_add, Nat.reduceAdd, splice, cellsL] at hg)
      | (refine op_pure hg ?_; clear hg; intro w hg; refine WO.fr ?_) | (refine op_pureB hg ?_; clear hg; intro w hg c hc; cases c <;> refine WO.fr ?_))
    | ((with_reducible refine WO.gid ?_); first | refine WO.on rfl ?_ | refine WO.offN rfl rfl ?_))
  exact ret1 rfl ⟨rfl, hg.drop⟩

/-- What put puts. -/
def LogS.put (L : LogS) (kind id : Int) (d : Deed) (r : Res) : LogS := { L with events := L.events ++ [⟨kind, id, d.client, d.op, r⟩] }

set_option maxHeartbeats 4000000 in
theorem put_spec {pl : Nat} {L : LogS} {h : Frag} {w0 : World} (kind id : Int) (dd : Deed) (r : Res) (hO : Owns w0 h) (hL : LogF pl L h) (hn : L.events.length ≤ 1000) :
    Calls Try.prog 32 #[.pointer (some ⟨pl, 0, none⟩), .int .i64 kind, .int .i64 id, .agg dd.enc.toArray, .agg r.enc.toArray] w0 fun e w' => ∃ h', (∃ v, e = .returned v) ∧ LogF pl (L.put kind id dd r) h' ∧ Goes w0 (keys h) [h'] w' := by
  obtain ⟨_, fe, fd, _, rfl, @⟨ae, ad, ce, cd, bm, clock, es, _, _, he, hd, hm⟩⟩ := hL
  have hg := hO.goes.four
  refine enter Try.func32 rfl (by simp only [Try.ntmps32, List.length_cons, List.length_nil, Nat.reduceAdd, Nat.reduceSub, List.replicate_succ, List.replicate_zero, List.cons_append, List.nil_append]; exact rfl) ?_
  repeat' (first
    | with_reducible refine QX.next ?_ | with_reducible refine WC.seq ?_ | with_reducible refine WC.region ?_ | with_reducible refine WC.block ?_ | with_reducible refine QX.bnorm ?_ | with_reducible refine QX.bret ?_ | with_reducible refine QX.ret ?_ | with_reducible refine QX.exit ?_ | with_reducible refine QX.bsame ?_ | with_reducible refine QX.bother rfl ?_
    | with_reducible refine WO.nil ?_ | with_reducible refine WC.skip ?_ | with_reducible refine WC.ret ?_ | with_reducible refine WC.exit ?_ | ((with_reducible refine WC.id ?_); first | refine WC.condT rfl ?_ | refine WC.condF rfl ?_)
    | (refine WC.quietG hg ?_; clear hg) | ((with_reducible refine WQ.nilG ?_); intro w hg)
    | ((with_reducible refine WQ.cid ?_); first | refine WQ.xG ?_ | refine WQ.pure ?_)
    | ((with_reducible refine WQ.gid ?_); first | refine WQ.on rfl ?_ | refine WQ.offN rfl rfl ?_)
    | ((with_reducible refine WO.cid ?_); first
      | refine WO.x ?_ | (refine op_alloc hg ?_; clear hg; intro b w hg; refine WO.fr ?_) | (refine op_boxA hg ?_; clear hg; intro b w hg; refine WO.fr ?_) | (refine op_box1 hg ?_; clear hg; intro b w hg; refine WO.fr ?_)
      | (refine op_store hg ?_; clear hg; intro w hg; refine WO.fr ?_; try simp only [List.set_cons_succ, List.set_cons_zero] at hg)
      | (refine op_storeA hg ?_; clear hg; intro w hg; refine WO.fr ?_; try simp only [over, List.take_zero, List.take_succ_cons, List.drop_zero, List.drop_succ_cons, List.nil_append, List.cons_append, List.append_nil, List.length_cons, List.length_nil, Nat.zero_add, Nat.reduceAdd, splice, cellsL] at hg)
      | (refine op_pure hg ?_; clear hg; intro w hg; refine WO.fr ?_) | (refine op_pureB hg ?_; clear hg; intro w hg c hc; cases c <;> refine WO.fr ?_))
    | ((with_reducible refine WO.gid ?_); first | refine WO.on rfl ?_ | refine WO.offN rfl rfl ?_))
  rename_i b8 _
  have s1 : ∀ {w : World}, (w.heap[pl]? = some (.cells [.slice ae L.events.length ce, .slice ad L.deeds.length cd, .map (some bm)].toArray 55 (0, 0)) ∧ w.heap[b8]? = some (.cells dd.enc.toArray 61 (0, 0)) ∧ w.heap[b]? = some (.cells r.enc.toArray 37 (0, 0))) → w.cell? ⟨pl, 0, none⟩ = some (.slice ae L.events.length ce) := fun h => heap_cell h.1 rfl
  have s2 : ∀ {w : World}, (w.heap[pl]? = some (.cells [.slice ae L.events.length ce, .slice ad L.deeds.length cd, .map (some bm)].toArray 55 (0, 0)) ∧ w.heap[b8]? = some (.cells dd.enc.toArray 61 (0, 0)) ∧ w.heap[b]? = some (.cells r.enc.toArray 37 (0, 0))) → w.cell? ⟨b8, 0, none⟩ = some (.int .i64 dd.client) := fun h => heap_cell h.2.1 rfl
  have t1 : ∀ {w : World}, (w.heap[pl]? = some (.cells [.slice ae L.events.length ce, .slice ad L.deeds.length cd, .map (some bm)].toArray 55 (0, 0)) ∧ w.heap[b8]? = some (.cells dd.enc.toArray 61 (0, 0)) ∧ w.heap[b]? = some (.cells r.enc.toArray 37 (0, 0))) → Cells w ⟨b8, 1, none⟩ [.int .i64 dd.op.kind, .int .i64 dd.op.n, .string dd.op.data] := fun h => heap_cells h.2.1 rfl
  have t2 : ∀ {w : World}, (w.heap[pl]? = some (.cells [.slice ae L.events.length ce, .slice ad L.deeds.length cd, .map (some bm)].toArray 55 (0, 0)) ∧ w.heap[b8]? = some (.cells dd.enc.toArray 61 (0, 0)) ∧ w.heap[b]? = some (.cells r.enc.toArray 37 (0, 0))) → Cells w ⟨b, 0, none⟩ [.int .i64 r.e, .int .i64 r.n, .int .i64 r.k1, .int .i64 r.k2, .int .i64 r.k3, .int .i64 r.k4, .int .i64 r.k5, .int .i64 r.k6] := fun h => heap_cells h.2.2 rfl
  refine WC.drawn (fun w => w.heap[pl]? = some (.cells [.slice ae L.events.length ce, .slice ad L.deeds.length cd, .map (some bm)].toArray 55 (0, 0)) ∧ w.heap[b8]? = some (.cells dd.enc.toArray 61 (0, 0)) ∧ w.heap[b]? = some (.cells r.enc.toArray 37 (0, 0))) [15, 16, 17] hg ?_
  clear hg
  intro w hg
  have hS : (fun w => w.heap[pl]? = some (.cells [.slice ae L.events.length ce, .slice ad L.deeds.length cd, .map (some bm)].toArray 55 (0, 0)) ∧ w.heap[b8]? = some (.cells dd.enc.toArray 61 (0, 0)) ∧ w.heap[b]? = some (.cells r.enc.toArray 37 (0, 0))) w := ⟨hg.own (pl, _) (by simp), hg.own (b8, _) (by simp), hg.own (b, _) (by simp)⟩
  refine WA.pass 0 hS ?_
  refine WA.pass 1 hS ?_
  refine WA.pass 2 hS ?_
  refine WA.pass 3 hS ?_
  refine WA.pass 5 hS ?_
  refine WA.pass 6 hS ?_
  refine WA.pass 7 hS ?_
  refine WA.pass 9 hS ?_
  refine WA.passS 4 hS ?_
  refine WA.passS 8 hS ?_
  refine WA.passS 10 hS ?_
  refine WA.passS 11 hS ?_
  refine WA.pass 12 hS ?_
  refine WA.only 13 ?_
  refine op_buildRows (rows := [Ev.enc ⟨kind, id, dd.client, dd.op, r⟩]) (by first | (simp only [ev, gt, put, List.set_cons_succ, List.set_cons_zero, Nat.zero_add, Nat.add_zero, Nat.mul_one, Nat.reduceAdd, Nat.reduceMul, Int.toNat_natCast, Int.reduceToNat, List.map_cons, List.map_nil, List.cons_append, List.nil_append]; exact rfl) | simp only [ev, gt, put, List.set_cons_succ, List.set_cons_zero, Nat.zero_add, Nat.add_zero, Nat.mul_one, Nat.reduceAdd, Nat.reduceMul, Int.toNat_natCast, Int.reduceToNat, List.map_cons, List.map_nil, List.cons_append, List.nil_append]) rfl (by simp [Ev.enc]) rfl rfl (by decide) hg ?_
  clear hg hS
  intro b3 w hg
  refine WO.fr ?_
  have hS : (fun w => w.heap[pl]? = some (.cells [.slice ae L.events.length ce, .slice ad L.deeds.length cd, .map (some bm)].toArray 55 (0, 0)) ∧ w.heap[b8]? = some (.cells dd.enc.toArray 61 (0, 0)) ∧ w.heap[b]? = some (.cells r.enc.toArray 37 (0, 0))) w := ⟨hg.own (pl, _) (by simp), hg.own (b8, _) (by simp), hg.own (b, _) (by simp)⟩
  refine WO.nilA hS ?_
  refine WA.only 14 ?_
  refine op_append (hg.front 4) he (hg.src1 Und.out rfl rfl) ?_
  clear hg hS
  intro a' cap' f' w hO' hg
  refine WO.fr ?_
  have hS : (fun w => w.heap[pl]? = some (.cells [.slice ae L.events.length ce, .slice ad L.deeds.length cd, .map (some bm)].toArray 55 (0, 0)) ∧ w.heap[b8]? = some (.cells dd.enc.toArray 61 (0, 0)) ∧ w.heap[b]? = some (.cells r.enc.toArray 37 (0, 0))) w := ⟨hg.own (pl, _) (by simp), hg.own (b8, _) (by simp), hg.own (b, _) (by simp)⟩
  refine WO.nilA hS ?_
  refine WA.passL 15 ?_
  refine WA.passL 16 ?_
  refine WA.only 17 ?_
  refine op_store hg ?_
  clear hg hS
  intro w hg
  refine WO.fr ?_
  refine WO.nilL ?_
  refine WA.nil ?_
  repeat' (first
    | with_reducible refine QX.next ?_ | with_reducible refine WC.seq ?_ | with_reducible refine WC.region ?_ | with_reducible refine WC.block ?_ | with_reducible refine QX.bnorm ?_ | with_reducible refine QX.bret ?_ | with_reducible refine QX.ret ?_ | with_reducible refine QX.exit ?_ | with_reducible refine QX.bsame ?_ | with_reducible refine QX.bother rfl ?_
    | with_reducible refine WO.nil ?_ | with_reducible refine WC.skip ?_ | with_reducible refine WC.ret ?_ | with_reducible refine WC.exit ?_ | ((with_reducible refine WC.id ?_); first | refine WC.condT rfl ?_ | refine WC.condF rfl ?_)
    | (refine WC.quietG hg ?_; clear hg) | ((with_reducible refine WQ.nilG ?_); intro w hg)
    | ((with_reducible refine WQ.cid ?_); first | refine WQ.xG ?_ | refine WQ.pure ?_)
    | ((with_reducible refine WQ.gid ?_); first | refine WQ.on rfl ?_ | refine WQ.offN rfl rfl ?_)
    | ((with_reducible refine WO.cid ?_); first
      | refine WO.x ?_ | (refine op_alloc hg ?_; clear hg; intro b w hg; refine WO.fr ?_) | (refine op_boxA hg ?_; clear hg; intro b w hg; refine WO.fr ?_) | (refine op_box1 hg ?_; clear hg; intro b w hg; refine WO.fr ?_)
      | (refine op_store hg ?_; clear hg; intro w hg; refine WO.fr ?_; try simp only [List.set_cons_succ, List.set_cons_zero] at hg)
      | (refine op_storeA hg ?_; clear hg; intro w hg; refine WO.fr ?_; try simp only [over, List.take_zero, List.take_succ_cons, List.drop_zero, List.drop_succ_cons, List.nil_append, List.cons_append, List.append_nil, List.length_cons, List.length_nil, Nat.zero_add, Nat.reduceAdd, splice, cellsL] at hg)
      | (refine op_pure hg ?_; clear hg; intro w hg; refine WO.fr ?_) | (refine op_pureB hg ?_; clear hg; intro w hg c hc; cases c <;> refine WO.fr ?_))
    | ((with_reducible refine WO.gid ?_); first | refine WO.on rfl ?_ | refine WO.offN rfl rfl ?_))
  have hl : (L.put kind id dd r).events.length = L.events.length + 1 := by simp [LogS.put]
  refine end0 rfl ⟨_, ⟨_, rfl⟩, ⟨_, f', fd, _, rfl, .mk (L := L.put kind id dd r) (ce := cap') (bm := bm) (by simpa [LogS.put] using hO') hd hm⟩, ?_⟩
  rw [hl]
  exact ((((hg.front 6).front 6).front 2).front 6).unfour.sub (by simp [LogS.put])
end Go.Proofs.Ytlomipcjkkjhiaa
