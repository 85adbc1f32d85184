/- The window: as it lies; what it tells. -/
import Derived.Test.YtdjepfpmoeecaaaWiC
import Derived.Test.YtdjepfpmoeecaaaCaL
namespace Go.Proofs.Ytdjepfpmoeecaaa
open Go Go.RowKit
set_option maxRecDepth 10000
set_option linter.unusedSimpArgs false
set_option linter.unusedVariables false

structure Prm where
  bytes : Int
  trail : Int
  marks : Int
  ahead : Int
  tickets : Int
  retries : Int
  step : Int
def Prm.enc (p : Prm) : List Value := [.int .i64 p.bytes, .int .i64 p.trail, .int .i64 p.marks, .int .i64 p.ahead, .int .i64 p.tickets, .int .i64 p.retries, .int .i64 p.step]

/-- A window's state. -/
structure WS where
  low : Nat
  fl : Nat
  all : List UInt8
  ws : List CE
structure WOK (B : Int) (s : WS) : Prop where
  b1 : 1 ≤ B
  b2 : B ≤ 4096
  h1 : s.fl ≤ s.low
  h2 : s.low ≤ s.all.length
  h3 : (s.all.length : Int) ≤ s.fl + B
  h4 : (s.ws.length : Int) ≤ B + 1

/-- How it lies: itself, its ring, its cache. -/
def WinF (pw : Nat) (p : Prm) (s : WS) (f : Frag) : Prop := ∃ (pr pc n : Nat) (bl : List UInt8) (m : List (Int × Ent)) (h : List Int) (fr fc : Frag), f = [(pw, .cells [.pointer (some ⟨pr, 0, none⟩), .pointer (some ⟨pc, 0, none⟩), .int .i64 p.bytes, .int .i64 p.trail, .int .i64 p.marks, .int .i64 p.ahead, .int .i64 p.tickets, .int .i64 p.retries, .int .i64 p.step, .int .i64 (s.low : Nat)].toArray 82 (0, 0))] ++ (fr ++ fc) ∧ (n : Int) = p.bytes ∧ RingF pr n bl s.fl s.all.length fr ∧ RingOK n bl s.fl s.all ∧ CacheF pc (p.bytes + 1) m h fc ∧ CRel s.ws (mget m) h

theorem Owns.parts {w : World} {a b c : Frag} (h : Owns w (a ++ (b ++ c))) : Owns w a ∧ Owns w b ∧ Owns w c := by
  have h2 := h.2
  simp only [keys, List.map_append, List.nodup_append] at h2
  exact ⟨⟨fun p hp => h.1 p (by simp [hp]), h2.1⟩, ⟨fun p hp => h.1 p (by simp [hp]), h2.2.1.1⟩, ⟨fun p hp => h.1 p (by simp [hp]), h2.2.1.2.1⟩⟩
theorem Owns.on {w0 w : World} {f : Frag} {Fs : List Frag} (h : Owns w0 f) (hg : Goes w0 [] Fs w) : Owns w f := ⟨heap_goes h.1 hg, h.2⟩

section
variable {pw : Nat} {p : Prm} {s : WS} {f : Frag} {w0 : World}
theorem wmade_cell {pc : Addr} (hc : w0.cell? ⟨pw, 1, none⟩ = some (.pointer (some pc))) : Calls Try.prog 50 #[.pointer (some ⟨pw, 0, none⟩)] w0 fun e w' => e = .returned (.bool true) ∧ Goes w0 [] [] w' := by
  have hg := Goes.refl w0
  have c1 : ∀ {w' Fs}, Goes w0 [] Fs w' → w'.cell? ⟨pw, 1, none⟩ = some (.pointer (some pc)) := fun h => h.cellOld0 hc
  refine enter Try.func50 rfl (by simp only [Try.ntmps50, List.length_cons, List.length_nil, Nat.reduceAdd, Nat.reduceSub, List.replicate_succ, List.replicate_zero, List.cons_append, List.nil_append]; exact rfl) ?_
  repeat' (first
    | with_reducible refine QX.next ?_ | with_reducible refine WC.seq ?_ | with_reducible refine WC.region ?_ | with_reducible refine WC.block ?_ | with_reducible refine QX.bnorm ?_ | with_reducible refine QX.bret ?_ | with_reducible refine QX.ret ?_ | with_reducible refine QX.exit ?_ | with_reducible refine QX.bsame ?_ | with_reducible refine QX.bother rfl ?_
    | with_reducible refine WO.nil ?_ | with_reducible refine WC.skip ?_ | with_reducible refine WC.ret ?_ | with_reducible refine WC.exit ?_ | ((with_reducible refine WC.id ?_); first | refine WC.condT rfl ?_ | refine WC.condF rfl ?_)
    | (refine WC.quietG hg ?_; clear hg) | ((with_reducible refine WQ.nilG ?_); intro w hg)
    | ((with_reducible refine WQ.cid ?_); first | refine WQ.xG ?_ | refine WQ.pure ?_)
    | ((with_reducible refine WQ.gid ?_); first | refine WQ.on rfl ?_ | refine WQ.offN rfl rfl ?_)
    | ((with_reducible refine WO.cid ?_); first
      | refine WO.x ?_ | (refine op_alloc hg ?_; clear hg; intro b w hg; refine WO.fr ?_) | (refine op_boxA hg ?_; clear hg; intro b w hg; refine WO.fr ?_) | (refine op_box1 hg ?_; clear hg; intro b w hg; refine WO.fr ?_)
      | (refine op_store hg ?_; clear hg; intro w hg; refine WO.fr ?_; try simp only [List.set_cons_succ, List.set_cons_zero] at hg)
      | (refine op_storeA hg ?_; clear hg; intro w hg; refine WO.fr ?_; try simp only [over, List.take_zero, List.take_succ_cons, List.drop_zero, List.drop_succ_cons, List.nil_append, List.cons_append, List.append_nil, List.length_cons, List.length_nil, Nat.zero_add, Nat.reduceAdd, splice, cellsL] at hg)
      | (refine op_pure hg ?_; clear hg; intro w hg; refine WO.fr ?_) | (refine op_pureB hg ?_; clear hg; intro w hg c hc; cases c <;> refine WO.fr ?_))
    | ((with_reducible refine WO.gid ?_); first | refine WO.on rfl ?_ | refine WO.offN rfl rfl ?_))
  exact ret1 rfl ⟨rfl, hg.drop⟩
theorem wmade_nil (w0 : World) : Calls Try.prog 50 #[.pointer none] w0 fun e w' => e = .returned (.bool false) ∧ Goes w0 [] [] w' := by
  have hg := Goes.refl w0
  refine enter Try.func50 rfl (by simp only [Try.ntmps50, List.length_cons, List.length_nil, Nat.reduceAdd, Nat.reduceSub, List.replicate_succ, List.replicate_zero, List.cons_append, List.nil_append]; exact rfl) ?_
  repeat' (first
    | with_reducible refine QX.next ?_ | with_reducible refine WC.seq ?_ | with_reducible refine WC.region ?_ | with_reducible refine WC.block ?_ | with_reducible refine QX.bnorm ?_ | with_reducible refine QX.bret ?_ | with_reducible refine QX.ret ?_ | with_reducible refine QX.exit ?_ | with_reducible refine QX.bsame ?_ | with_reducible refine QX.bother rfl ?_
    | with_reducible refine WO.nil ?_ | with_reducible refine WC.skip ?_ | with_reducible refine WC.ret ?_ | with_reducible refine WC.exit ?_ | ((with_reducible refine WC.id ?_); first | refine WC.condT rfl ?_ | refine WC.condF rfl ?_)
    | (refine WC.quietG hg ?_; clear hg) | ((with_reducible refine WQ.nilG ?_); intro w hg)
    | ((with_reducible refine WQ.cid ?_); first | refine WQ.xG ?_ | refine WQ.pure ?_)
    | ((with_reducible refine WQ.gid ?_); first | refine WQ.on rfl ?_ | refine WQ.offN rfl rfl ?_)
    | ((with_reducible refine WO.cid ?_); first
      | refine WO.x ?_ | (refine op_alloc hg ?_; clear hg; intro b w hg; refine WO.fr ?_) | (refine op_boxA hg ?_; clear hg; intro b w hg; refine WO.fr ?_) | (refine op_box1 hg ?_; clear hg; intro b w hg; refine WO.fr ?_)
      | (refine op_store hg ?_; clear hg; intro w hg; refine WO.fr ?_; try simp only [List.set_cons_succ, List.set_cons_zero] at hg)
      | (refine op_storeA hg ?_; clear hg; intro w hg; refine WO.fr ?_; try simp only [over, List.take_zero, List.take_succ_cons, List.drop_zero, List.drop_succ_cons, List.nil_append, List.cons_append, List.append_nil, List.length_cons, List.length_nil, Nat.zero_add, Nat.reduceAdd, splice, cellsL] at hg)
      | (refine op_pure hg ?_; clear hg; intro w hg; refine WO.fr ?_) | (refine op_pureB hg ?_; clear hg; intro w hg c hc; cases c <;> refine WO.fr ?_))
    | ((with_reducible refine WO.gid ?_); first | refine WO.on rfl ?_ | refine WO.offN rfl rfl ?_))
  exact ret1 rfl ⟨rfl, hg.drop⟩
theorem wmade_zero (hc : w0.cell? ⟨pw, 1, none⟩ = some (.pointer none)) : Calls Try.prog 50 #[.pointer (some ⟨pw, 0, none⟩)] w0 fun e w' => e = .returned (.bool false) ∧ Goes w0 [] [] w' := by
  have hg := Goes.refl w0
  have c1 : ∀ {w' Fs}, Goes w0 [] Fs w' → w'.cell? ⟨pw, 1, none⟩ = some (.pointer none) := fun h => h.cellOld0 hc
  refine enter Try.func50 rfl (by simp only [Try.ntmps50, List.length_cons, List.length_nil, Nat.reduceAdd, Nat.reduceSub, List.replicate_succ, List.replicate_zero, List.cons_append, List.nil_append]; exact rfl) ?_
  repeat' (first
    | with_reducible refine QX.next ?_ | with_reducible refine WC.seq ?_ | with_reducible refine WC.region ?_ | with_reducible refine WC.block ?_ | with_reducible refine QX.bnorm ?_ | with_reducible refine QX.bret ?_ | with_reducible refine QX.ret ?_ | with_reducible refine QX.exit ?_ | with_reducible refine QX.bsame ?_ | with_reducible refine QX.bother rfl ?_
    | with_reducible refine WO.nil ?_ | with_reducible refine WC.skip ?_ | with_reducible refine WC.ret ?_ | with_reducible refine WC.exit ?_ | ((with_reducible refine WC.id ?_); first | refine WC.condT rfl ?_ | refine WC.condF rfl ?_)
    | (refine WC.quietG hg ?_; clear hg) | ((with_reducible refine WQ.nilG ?_); intro w hg)
    | ((with_reducible refine WQ.cid ?_); first | refine WQ.xG ?_ | refine WQ.pure ?_)
    | ((with_reducible refine WQ.gid ?_); first | refine WQ.on rfl ?_ | refine WQ.offN rfl rfl ?_)
    | ((with_reducible refine WO.cid ?_); first
      | refine WO.x ?_ | (refine op_alloc hg ?_; clear hg; intro b w hg; refine WO.fr ?_) | (refine op_boxA hg ?_; clear hg; intro b w hg; refine WO.fr ?_) | (refine op_box1 hg ?_; clear hg; intro b w hg; refine WO.fr ?_)
      | (refine op_store hg ?_; clear hg; intro w hg; refine WO.fr ?_; try simp only [List.set_cons_succ, List.set_cons_zero] at hg)
      | (refine op_storeA hg ?_; clear hg; intro w hg; refine WO.fr ?_; try simp only [over, List.take_zero, List.take_succ_cons, List.drop_zero, List.drop_succ_cons, List.nil_append, List.cons_append, List.append_nil, List.length_cons, List.length_nil, Nat.zero_add, Nat.reduceAdd, splice, cellsL] at hg)
      | (refine op_pure hg ?_; clear hg; intro w hg; refine WO.fr ?_) | (refine op_pureB hg ?_; clear hg; intro w hg c hc; cases c <;> refine WO.fr ?_))
    | ((with_reducible refine WO.gid ?_); first | refine WO.on rfl ?_ | refine WO.offN rfl rfl ?_))
  exact ret1 rfl ⟨rfl, hg.drop⟩
theorem ask_spec {fid : FuncId} {fd : Func} [Fun Try.prog fid fd] {a : Option Addr} {v : Value} (hm : ∀ {w}, Goes w0 [] [] w → Calls Try.prog 50 #[.pointer a] w fun e w' => e = .returned (.bool true) ∧ Goes w [] [] w') (hc : ∀ {w}, Goes w0 [] [] w → Calls Try.prog fid #[.pointer a] w fun e w' => e = .returned v ∧ Goes w [] [] w') :
    Calls Try.prog 53 #[.pointer a, .func (.func fid) #[] #[]] w0 fun e w' => e = .returned v ∧ Goes w0 [] [] w' := by
  have hg := Goes.refl w0
  have p1 : ∀ {w Fs}, Goes w0 [] Fs w → Calls Try.prog 50 #[.pointer a] w _ := fun h => hm h.drop
  refine enter Try.func53 rfl (by simp only [Try.ntmps53, List.length_cons, List.length_nil, Nat.reduceAdd, Nat.reduceSub, List.replicate_succ, List.replicate_zero, List.cons_append, List.nil_append]; exact rfl) ?_
  repeat' (first
    | with_reducible refine QX.next ?_ | with_reducible refine WC.seq ?_ | with_reducible refine WC.region ?_ | with_reducible refine WC.block ?_ | with_reducible refine QX.bnorm ?_ | with_reducible refine QX.bret ?_ | with_reducible refine QX.ret ?_ | with_reducible refine QX.exit ?_ | with_reducible refine QX.bsame ?_ | with_reducible refine QX.bother rfl ?_
    | with_reducible refine WO.nil ?_ | with_reducible refine WC.skip ?_ | with_reducible refine WC.ret ?_ | with_reducible refine WC.exit ?_ | ((with_reducible refine WC.id ?_); first | refine WC.condT rfl ?_ | refine WC.condF rfl ?_)
    | (refine WC.quietG hg ?_; clear hg) | ((with_reducible refine WQ.nilG ?_); intro w hg)
    | ((with_reducible refine WQ.cid ?_); first | refine WQ.xG ?_ | refine WQ.pure ?_)
    | ((with_reducible refine WQ.gid ?_); first | refine WQ.on rfl ?_ | refine WQ.offN rfl rfl ?_)
    | ((with_reducible refine WO.cid ?_); first
      | refine WO.x ?_ | (refine op_alloc hg ?_; clear hg; intro b w hg; refine WO.fr ?_) | (refine op_boxA hg ?_; clear hg; intro b w hg; refine WO.fr ?_) | (refine op_box1 hg ?_; clear hg; intro b w hg; refine WO.fr ?_)
      | (refine op_store hg ?_; clear hg; intro w hg; refine WO.fr ?_; try simp only [List.set_cons_succ, List.set_cons_zero] at hg)
      | (refine op_storeA hg ?_; clear hg; intro w hg; refine WO.fr ?_; try simp only [over, List.take_zero, List.take_succ_cons, List.drop_zero, List.drop_succ_cons, List.nil_append, List.cons_append, List.append_nil, List.length_cons, List.length_nil, Nat.zero_add, Nat.reduceAdd, splice, cellsL] at hg)
      | (refine op_pure hg ?_; clear hg; intro w hg; refine WO.fr ?_) | (refine op_pureB hg ?_; clear hg; intro w hg c hc; cases c <;> refine WO.fr ?_))
    | ((with_reducible refine WO.gid ?_); first | refine WO.on rfl ?_ | refine WO.offN rfl rfl ?_))
  refine op_callV (fs := []) (cs := []) (f := fid) (hc hg.drop) ?_
  rintro _ w2 ⟨rfl, hg2⟩
  replace hg := hg.call00 hg2
  clear hg2
  refine ⟨_, rfl, ?_⟩
  refine WO.fr ?_
  repeat' (first
    | with_reducible refine QX.next ?_ | with_reducible refine WC.seq ?_ | with_reducible refine WC.region ?_ | with_reducible refine WC.block ?_ | with_reducible refine QX.bnorm ?_ | with_reducible refine QX.bret ?_ | with_reducible refine QX.ret ?_ | with_reducible refine QX.exit ?_ | with_reducible refine QX.bsame ?_ | with_reducible refine QX.bother rfl ?_
    | with_reducible refine WO.nil ?_ | with_reducible refine WC.skip ?_ | with_reducible refine WC.ret ?_ | with_reducible refine WC.exit ?_ | ((with_reducible refine WC.id ?_); first | refine WC.condT rfl ?_ | refine WC.condF rfl ?_)
    | (refine WC.quietG hg ?_; clear hg) | ((with_reducible refine WQ.nilG ?_); intro w hg)
    | ((with_reducible refine WQ.cid ?_); first | refine WQ.xG ?_ | refine WQ.pure ?_)
    | ((with_reducible refine WQ.gid ?_); first | refine WQ.on rfl ?_ | refine WQ.offN rfl rfl ?_)
    | ((with_reducible refine WO.cid ?_); first
      | refine WO.x ?_ | (refine op_alloc hg ?_; clear hg; intro b w hg; refine WO.fr ?_) | (refine op_boxA hg ?_; clear hg; intro b w hg; refine WO.fr ?_) | (refine op_box1 hg ?_; clear hg; intro b w hg; refine WO.fr ?_)
      | (refine op_store hg ?_; clear hg; intro w hg; refine WO.fr ?_; try simp only [List.set_cons_succ, List.set_cons_zero] at hg)
      | (refine op_storeA hg ?_; clear hg; intro w hg; refine WO.fr ?_; try simp only [over, List.take_zero, List.take_succ_cons, List.drop_zero, List.drop_succ_cons, List.nil_append, List.cons_append, List.append_nil, List.length_cons, List.length_nil, Nat.zero_add, Nat.reduceAdd, splice, cellsL] at hg)
      | (refine op_pure hg ?_; clear hg; intro w hg; refine WO.fr ?_) | (refine op_pureB hg ?_; clear hg; intro w hg c hc; cases c <;> refine WO.fr ?_))
    | ((with_reducible refine WO.gid ?_); first | refine WO.on rfl ?_ | refine WO.offN rfl rfl ?_))
  exact ret1 rfl ⟨rfl, hg.drop⟩
theorem ask_no {x : Value} {a : Option Addr} (hm : ∀ {w}, Goes w0 [] [] w → Calls Try.prog 50 #[.pointer a] w fun e w' => e = .returned (.bool false) ∧ Goes w [] [] w') :
    Calls Try.prog 53 #[.pointer a, x] w0 fun e w' => e = .returned (.int .i64 0) ∧ Goes w0 [] [] w' := by
  have hg := Goes.refl w0
  have p1 : ∀ {w Fs}, Goes w0 [] Fs w → Calls Try.prog 50 #[.pointer a] w _ := fun h => hm h.drop
  refine enter Try.func53 rfl (by simp only [Try.ntmps53, List.length_cons, List.length_nil, Nat.reduceAdd, Nat.reduceSub, List.replicate_succ, List.replicate_zero, List.cons_append, List.nil_append]; exact rfl) ?_
  repeat' (first
    | with_reducible refine QX.next ?_ | with_reducible refine WC.seq ?_ | with_reducible refine WC.region ?_ | with_reducible refine WC.block ?_ | with_reducible refine QX.bnorm ?_ | with_reducible refine QX.bret ?_ | with_reducible refine QX.ret ?_ | with_reducible refine QX.exit ?_ | with_reducible refine QX.bsame ?_ | with_reducible refine QX.bother rfl ?_
    | with_reducible refine WO.nil ?_ | with_reducible refine WC.skip ?_ | with_reducible refine WC.ret ?_ | with_reducible refine WC.exit ?_ | ((with_reducible refine WC.id ?_); first | refine WC.condT rfl ?_ | refine WC.condF rfl ?_)
    | (refine WC.quietG hg ?_; clear hg) | ((with_reducible refine WQ.nilG ?_); intro w hg)
    | ((with_reducible refine WQ.cid ?_); first | refine WQ.xG ?_ | refine WQ.pure ?_)
    | ((with_reducible refine WQ.gid ?_); first | refine WQ.on rfl ?_ | refine WQ.offN rfl rfl ?_)
    | ((with_reducible refine WO.cid ?_); first
      | refine WO.x ?_ | (refine op_alloc hg ?_; clear hg; intro b w hg; refine WO.fr ?_) | (refine op_boxA hg ?_; clear hg; intro b w hg; refine WO.fr ?_) | (refine op_box1 hg ?_; clear hg; intro b w hg; refine WO.fr ?_)
      | (refine op_store hg ?_; clear hg; intro w hg; refine WO.fr ?_; try simp only [List.set_cons_succ, List.set_cons_zero] at hg)
      | (refine op_storeA hg ?_; clear hg; intro w hg; refine WO.fr ?_; try simp only [over, List.take_zero, List.take_succ_cons, List.drop_zero, List.drop_succ_cons, List.nil_append, List.cons_append, List.append_nil, List.length_cons, List.length_nil, Nat.zero_add, Nat.reduceAdd, splice, cellsL] at hg)
      | (refine op_pure hg ?_; clear hg; intro w hg; refine WO.fr ?_) | (refine op_pureB hg ?_; clear hg; intro w hg c hc; cases c <;> refine WO.fr ?_))
    | ((with_reducible refine WO.gid ?_); first | refine WO.on rfl ?_ | refine WO.offN rfl rfl ?_))
  exact ret1 rfl ⟨rfl, hg.drop⟩

/-- What is known of a window. -/
theorem WinF.get (hF : WinF pw p s f) (hO : Owns w0 f) : ∃ (pr pc n : Nat) (bl : List UInt8) (m : List (Int × Ent)) (h : List Int) (fr fc : Frag), (n : Int) = p.bytes ∧ RingF pr n bl s.fl s.all.length fr ∧ RingOK n bl s.fl s.all ∧ CacheF pc (p.bytes + 1) m h fc ∧ CRel s.ws (mget m) h ∧ w0.heap[pw]? = some (.cells [.pointer (some ⟨pr, 0, none⟩), .pointer (some ⟨pc, 0, none⟩), .int .i64 p.bytes, .int .i64 p.trail, .int .i64 p.marks, .int .i64 p.ahead, .int .i64 p.tickets, .int .i64 p.retries, .int .i64 p.step, .int .i64 (s.low : Nat)].toArray 82 (0, 0)) ∧ Owns w0 fr ∧ Owns w0 fc := by
  obtain ⟨pr, pc, n, bl, m, h, fr, fc, rfl, hn, h1, h2, h3, h4⟩ := hF
  obtain ⟨o1, o2, o3⟩ := hO.parts
  exact ⟨pr, pc, n, bl, m, h, fr, fc, hn, h1, h2, h3, h4, o1.1 (pw, _) (by simp), o2, o3⟩
theorem wmade_spec (hF : WinF pw p s f) (hO : Owns w0 f) : Calls Try.prog 50 #[.pointer (some ⟨pw, 0, none⟩)] w0 fun e w' => e = .returned (.bool true) ∧ Goes w0 [] [] w' := by
  obtain ⟨pr, pc, n, bl, m, h, fr, fc, hn, h1, h2, h3, h4, hh, o2, o3⟩ := hF.get hO
  exact wmade_cell (heap_cell hh rfl)

theorem lowest_spec (hF : WinF pw p s f) (hO : Owns w0 f) : Calls Try.prog 54 #[.pointer (some ⟨pw, 0, none⟩)] w0 fun e w' => e = .returned (.int .i64 s.low) ∧ Goes w0 [] [] w' := by
  obtain ⟨pr, pc, n, bl, m, h, fr, fc, hn, h1, h2, h3, h4, hh, o2, o3⟩ := hF.get hO
  have hg := Goes.refl w0
  have c0 : w0.cell? ⟨pw, 9, none⟩ = some (.int .i64 s.low) := heap_cell hh rfl
  have c1 : ∀ {w Fs}, Goes w0 [] Fs w → w.cell? ⟨pw, 9, none⟩ = some (.int .i64 s.low) := fun h => h.cellOld0 c0
  refine enter Try.func54 rfl (by simp only [Try.ntmps54, List.length_cons, List.length_nil, Nat.reduceAdd, Nat.reduceSub, List.replicate_succ, List.replicate_zero, List.cons_append, List.nil_append]; exact rfl) ?_
  repeat' (first
    | with_reducible refine QX.next ?_ | with_reducible refine WC.seq ?_ | with_reducible refine WC.region ?_ | with_reducible refine WC.block ?_ | with_reducible refine QX.bnorm ?_ | with_reducible refine QX.bret ?_ | with_reducible refine QX.ret ?_ | with_reducible refine QX.exit ?_ | with_reducible refine QX.bsame ?_ | with_reducible refine QX.bother rfl ?_
    | with_reducible refine WO.nil ?_ | with_reducible refine WC.skip ?_ | with_reducible refine WC.ret ?_ | with_reducible refine WC.exit ?_ | ((with_reducible refine WC.id ?_); first | refine WC.condT rfl ?_ | refine WC.condF rfl ?_)
    | (refine WC.quietG hg ?_; clear hg) | ((with_reducible refine WQ.nilG ?_); intro w hg)
    | ((with_reducible refine WQ.cid ?_); first | refine WQ.xG ?_ | refine WQ.pure ?_)
    | ((with_reducible refine WQ.gid ?_); first | refine WQ.on rfl ?_ | refine WQ.offN rfl rfl ?_)
    | ((with_reducible refine WO.cid ?_); first
      | refine WO.x ?_ | (refine op_alloc hg ?_; clear hg; intro b w hg; refine WO.fr ?_) | (refine op_boxA hg ?_; clear hg; intro b w hg; refine WO.fr ?_) | (refine op_box1 hg ?_; clear hg; intro b w hg; refine WO.fr ?_)
      | (refine op_store hg ?_; clear hg; intro w hg; refine WO.fr ?_; try simp only [List.set_cons_succ, List.set_cons_zero] at hg)
      | (refine op_storeA hg ?_; clear hg; intro w hg; refine WO.fr ?_; try simp only [over, List.take_zero, List.take_succ_cons, List.drop_zero, List.drop_succ_cons, List.nil_append, List.cons_append, List.append_nil, List.length_cons, List.length_nil, Nat.zero_add, Nat.reduceAdd, splice, cellsL] at hg)
      | (refine op_pure hg ?_; clear hg; intro w hg; refine WO.fr ?_) | (refine op_pureB hg ?_; clear hg; intro w hg c hc; cases c <;> refine WO.fr ?_))
    | ((with_reducible refine WO.gid ?_); first | refine WO.on rfl ?_ | refine WO.offN rfl rfl ?_))
  exact ret1 rfl ⟨rfl, hg.drop⟩
theorem wfloor_spec (hF : WinF pw p s f) (hO : Owns w0 f) : Calls Try.prog 61 #[.pointer (some ⟨pw, 0, none⟩)] w0 fun e w' => e = .returned (.int .i64 s.fl) ∧ Goes w0 [] [] w' := by
  obtain ⟨pr, pc, n, bl, m, h, fr, fc, hn, h1, h2, h3, h4, hh, o2, o3⟩ := hF.get hO
  have hg := Goes.refl w0
  have c0 : w0.cell? ⟨pw, 0, none⟩ = some (.pointer (some ⟨pr, 0, none⟩)) := heap_cell hh rfl
  have c1 : ∀ {w Fs}, Goes w0 [] Fs w → w.cell? ⟨pw, 0, none⟩ = some (.pointer (some ⟨pr, 0, none⟩)) := fun h => h.cellOld0 c0
  have p1 : ∀ {w Fs}, Goes w0 [] Fs w → Calls Try.prog 76 #[.pointer (some ⟨pr, 0, none⟩)] w _ := fun h => rFloor_spec h1 (heap_goes o2.1 h) h2.pos
  refine enter Try.func61 rfl (by simp only [Try.ntmps61, List.length_cons, List.length_nil, Nat.reduceAdd, Nat.reduceSub, List.replicate_succ, List.replicate_zero, List.cons_append, List.nil_append]; exact rfl) ?_
  repeat' (first
    | with_reducible refine QX.next ?_ | with_reducible refine WC.seq ?_ | with_reducible refine WC.region ?_ | with_reducible refine WC.block ?_ | with_reducible refine QX.bnorm ?_ | with_reducible refine QX.bret ?_ | with_reducible refine QX.ret ?_ | with_reducible refine QX.exit ?_ | with_reducible refine QX.bsame ?_ | with_reducible refine QX.bother rfl ?_
    | with_reducible refine WO.nil ?_ | with_reducible refine WC.skip ?_ | with_reducible refine WC.ret ?_ | with_reducible refine WC.exit ?_ | ((with_reducible refine WC.id ?_); first | refine WC.condT rfl ?_ | refine WC.condF rfl ?_)
    | (refine WC.quietG hg ?_; clear hg) | ((with_reducible refine WQ.nilG ?_); intro w hg)
    | ((with_reducible refine WQ.cid ?_); first | refine WQ.xG ?_ | refine WQ.pure ?_)
    | ((with_reducible refine WQ.gid ?_); first | refine WQ.on rfl ?_ | refine WQ.offN rfl rfl ?_)
    | ((with_reducible refine WO.cid ?_); first
      | refine WO.x ?_ | (refine op_alloc hg ?_; clear hg; intro b w hg; refine WO.fr ?_) | (refine op_boxA hg ?_; clear hg; intro b w hg; refine WO.fr ?_) | (refine op_box1 hg ?_; clear hg; intro b w hg; refine WO.fr ?_)
      | (refine op_store hg ?_; clear hg; intro w hg; refine WO.fr ?_; try simp only [List.set_cons_succ, List.set_cons_zero] at hg)
      | (refine op_storeA hg ?_; clear hg; intro w hg; refine WO.fr ?_; try simp only [over, List.take_zero, List.take_succ_cons, List.drop_zero, List.drop_succ_cons, List.nil_append, List.cons_append, List.append_nil, List.length_cons, List.length_nil, Nat.zero_add, Nat.reduceAdd, splice, cellsL] at hg)
      | (refine op_pure hg ?_; clear hg; intro w hg; refine WO.fr ?_) | (refine op_pureB hg ?_; clear hg; intro w hg c hc; cases c <;> refine WO.fr ?_))
    | ((with_reducible refine WO.gid ?_); first | refine WO.on rfl ?_ | refine WO.offN rfl rfl ?_))
  exact ret1 rfl ⟨rfl, hg.drop⟩
theorem wend_spec (hF : WinF pw p s f) (hO : Owns w0 f) : Calls Try.prog 60 #[.pointer (some ⟨pw, 0, none⟩)] w0 fun e w' => e = .returned (.int .i64 s.all.length) ∧ Goes w0 [] [] w' := by
  obtain ⟨pr, pc, n, bl, m, h, fr, fc, hn, h1, h2, h3, h4, hh, o2, o3⟩ := hF.get hO
  have hg := Goes.refl w0
  have c0 : w0.cell? ⟨pw, 0, none⟩ = some (.pointer (some ⟨pr, 0, none⟩)) := heap_cell hh rfl
  have c1 : ∀ {w Fs}, Goes w0 [] Fs w → w.cell? ⟨pw, 0, none⟩ = some (.pointer (some ⟨pr, 0, none⟩)) := fun h => h.cellOld0 c0
  have p1 : ∀ {w Fs}, Goes w0 [] Fs w → Calls Try.prog 75 #[.pointer (some ⟨pr, 0, none⟩)] w _ := fun h => rEnd_spec h1 (heap_goes o2.1 h) h2.pos
  refine enter Try.func60 rfl (by simp only [Try.ntmps60, List.length_cons, List.length_nil, Nat.reduceAdd, Nat.reduceSub, List.replicate_succ, List.replicate_zero, List.cons_append, List.nil_append]; exact rfl) ?_
  repeat' (first
    | with_reducible refine QX.next ?_ | with_reducible refine WC.seq ?_ | with_reducible refine WC.region ?_ | with_reducible refine WC.block ?_ | with_reducible refine QX.bnorm ?_ | with_reducible refine QX.bret ?_ | with_reducible refine QX.ret ?_ | with_reducible refine QX.exit ?_ | with_reducible refine QX.bsame ?_ | with_reducible refine QX.bother rfl ?_
    | with_reducible refine WO.nil ?_ | with_reducible refine WC.skip ?_ | with_reducible refine WC.ret ?_ | with_reducible refine WC.exit ?_ | ((with_reducible refine WC.id ?_); first | refine WC.condT rfl ?_ | refine WC.condF rfl ?_)
    | (refine WC.quietG hg ?_; clear hg) | ((with_reducible refine WQ.nilG ?_); intro w hg)
    | ((with_reducible refine WQ.cid ?_); first | refine WQ.xG ?_ | refine WQ.pure ?_)
    | ((with_reducible refine WQ.gid ?_); first | refine WQ.on rfl ?_ | refine WQ.offN rfl rfl ?_)
    | ((with_reducible refine WO.cid ?_); first
      | refine WO.x ?_ | (refine op_alloc hg ?_; clear hg; intro b w hg; refine WO.fr ?_) | (refine op_boxA hg ?_; clear hg; intro b w hg; refine WO.fr ?_) | (refine op_box1 hg ?_; clear hg; intro b w hg; refine WO.fr ?_)
      | (refine op_store hg ?_; clear hg; intro w hg; refine WO.fr ?_; try simp only [List.set_cons_succ, List.set_cons_zero] at hg)
      | (refine op_storeA hg ?_; clear hg; intro w hg; refine WO.fr ?_; try simp only [over, List.take_zero, List.take_succ_cons, List.drop_zero, List.drop_succ_cons, List.nil_append, List.cons_append, List.append_nil, List.length_cons, List.length_nil, Nat.zero_add, Nat.reduceAdd, splice, cellsL] at hg)
      | (refine op_pure hg ?_; clear hg; intro w hg; refine WO.fr ?_) | (refine op_pureB hg ?_; clear hg; intro w hg c hc; cases c <;> refine WO.fr ?_))
    | ((with_reducible refine WO.gid ?_); first | refine WO.on rfl ?_ | refine WO.offN rfl rfl ?_))
  exact ret1 rfl ⟨rfl, hg.drop⟩
theorem wroom_spec (hF : WinF pw p s f) (hO : Owns w0 f) (hs : s.all.length ≤ 100000 ∧ s.low ≤ s.all.length ∧ p.bytes ≤ 4096) : Calls Try.prog 66 #[.pointer (some ⟨pw, 0, none⟩)] w0 fun e w' => e = .returned (.int .i64 (s.low + p.bytes - s.all.length)) ∧ Goes w0 [] [] w' := by
  obtain ⟨pr, pc, n, bl, m, h, fr, fc, hn, h1, h2, h3, h4, hh, o2, o3⟩ := hF.get hO
  have hpos := h2.pos
  have hg := Goes.refl w0
  have c0 : w0.cell? ⟨pw, 0, none⟩ = some (.pointer (some ⟨pr, 0, none⟩)) := heap_cell hh rfl
  have c9 : w0.cell? ⟨pw, 9, none⟩ = some (.int .i64 s.low) := heap_cell hh rfl
  have c8 : w0.cell? ⟨pw, 2, none⟩ = some (.int .i64 p.bytes) := heap_cell hh rfl
  have c1 : ∀ {w Fs}, Goes w0 [] Fs w → w.cell? ⟨pw, 0, none⟩ = some (.pointer (some ⟨pr, 0, none⟩)) := fun h => h.cellOld0 c0
  have c2 : ∀ {w Fs}, Goes w0 [] Fs w → w.cell? ⟨pw, 9, none⟩ = some (.int .i64 s.low) := fun h => h.cellOld0 c9
  have c3 : ∀ {w Fs}, Goes w0 [] Fs w → w.cell? ⟨pw, 2, none⟩ = some (.int .i64 p.bytes) := fun h => h.cellOld0 c8
  have p1 : ∀ {w Fs}, Goes w0 [] Fs w → Calls Try.prog 75 #[.pointer (some ⟨pr, 0, none⟩)] w _ := fun h => rEnd_spec h1 (heap_goes o2.1 h) h2.pos
  refine enter Try.func66 rfl (by simp only [Try.ntmps66, List.length_cons, List.length_nil, Nat.reduceAdd, Nat.reduceSub, List.replicate_succ, List.replicate_zero, List.cons_append, List.nil_append]; exact rfl) ?_
  repeat' (first
    | with_reducible refine QX.next ?_ | with_reducible refine WC.seq ?_ | with_reducible refine WC.region ?_ | with_reducible refine WC.block ?_ | with_reducible refine QX.bnorm ?_ | with_reducible refine QX.bret ?_ | with_reducible refine QX.ret ?_ | with_reducible refine QX.exit ?_ | with_reducible refine QX.bsame ?_ | with_reducible refine QX.bother rfl ?_
    | with_reducible refine WO.nil ?_ | with_reducible refine WC.skip ?_ | with_reducible refine WC.ret ?_ | with_reducible refine WC.exit ?_ | ((with_reducible refine WC.id ?_); first | refine WC.condT rfl ?_ | refine WC.condF rfl ?_)
    | (refine WC.quietG hg ?_; clear hg) | ((with_reducible refine WQ.nilG ?_); intro w hg)
    | ((with_reducible refine WQ.cid ?_); first | refine WQ.xG ?_ | refine WQ.pure ?_)
    | ((with_reducible refine WQ.gid ?_); first | refine WQ.on rfl ?_ | refine WQ.offN rfl rfl ?_)
    | ((with_reducible refine WO.cid ?_); first
      | refine WO.x ?_ | (refine op_alloc hg ?_; clear hg; intro b w hg; refine WO.fr ?_) | (refine op_boxA hg ?_; clear hg; intro b w hg; refine WO.fr ?_) | (refine op_box1 hg ?_; clear hg; intro b w hg; refine WO.fr ?_)
      | (refine op_store hg ?_; clear hg; intro w hg; refine WO.fr ?_; try simp only [List.set_cons_succ, List.set_cons_zero] at hg)
      | (refine op_storeA hg ?_; clear hg; intro w hg; refine WO.fr ?_; try simp only [over, List.take_zero, List.take_succ_cons, List.drop_zero, List.drop_succ_cons, List.nil_append, List.cons_append, List.append_nil, List.length_cons, List.length_nil, Nat.zero_add, Nat.reduceAdd, splice, cellsL] at hg)
      | (refine op_pure hg ?_; clear hg; intro w hg; refine WO.fr ?_) | (refine op_pureB hg ?_; clear hg; intro w hg c hc; cases c <;> refine WO.fr ?_))
    | ((with_reducible refine WO.gid ?_); first | refine WO.on rfl ?_ | refine WO.offN rfl rfl ?_))
  exact ret1 rfl ⟨rfl, hg.drop⟩
theorem wcached_spec (hF : WinF pw p s f) (hO : Owns w0 f) : Calls Try.prog 62 #[.pointer (some ⟨pw, 0, none⟩)] w0 fun e w' => e = .returned (.int .i64 s.ws.length) ∧ Goes w0 [] [] w' := by
  obtain ⟨pr, pc, n, bl, m, h, fr, fc, hn, h1, h2, h3, h4, hh, o2, o3⟩ := hF.get hO
  have hg := Goes.refl w0
  have c0 : w0.cell? ⟨pw, 1, none⟩ = some (.pointer (some ⟨pc, 0, none⟩)) := heap_cell hh rfl
  have c1 : ∀ {w Fs}, Goes w0 [] Fs w → w.cell? ⟨pw, 1, none⟩ = some (.pointer (some ⟨pc, 0, none⟩)) := fun h => h.cellOld0 c0
  have hml : m.length = s.ws.length := by
    obtain ⟨_, _, _, _, _, _, _, hm⟩ := h3
    exact h4.mlen hm.nodup
  have p1 : ∀ {w Fs}, Goes w0 [] Fs w → Calls Try.prog 13 #[.pointer (some ⟨pc, 0, none⟩)] w _ := fun h => CLen_spec (o3.on h) h3
  rw [hml] at p1
  refine enter Try.func62 rfl (by simp only [Try.ntmps62, List.length_cons, List.length_nil, Nat.reduceAdd, Nat.reduceSub, List.replicate_succ, List.replicate_zero, List.cons_append, List.nil_append]; exact rfl) ?_
  repeat' (first
    | with_reducible refine QX.next ?_ | with_reducible refine WC.seq ?_ | with_reducible refine WC.region ?_ | with_reducible refine WC.block ?_ | with_reducible refine QX.bnorm ?_ | with_reducible refine QX.bret ?_ | with_reducible refine QX.ret ?_ | with_reducible refine QX.exit ?_ | with_reducible refine QX.bsame ?_ | with_reducible refine QX.bother rfl ?_
    | with_reducible refine WO.nil ?_ | with_reducible refine WC.skip ?_ | with_reducible refine WC.ret ?_ | with_reducible refine WC.exit ?_ | ((with_reducible refine WC.id ?_); first | refine WC.condT rfl ?_ | refine WC.condF rfl ?_)
    | (refine WC.quietG hg ?_; clear hg) | ((with_reducible refine WQ.nilG ?_); intro w hg)
    | ((with_reducible refine WQ.cid ?_); first | refine WQ.xG ?_ | refine WQ.pure ?_)
    | ((with_reducible refine WQ.gid ?_); first | refine WQ.on rfl ?_ | refine WQ.offN rfl rfl ?_)
    | ((with_reducible refine WO.cid ?_); first
      | refine WO.x ?_ | (refine op_alloc hg ?_; clear hg; intro b w hg; refine WO.fr ?_) | (refine op_boxA hg ?_; clear hg; intro b w hg; refine WO.fr ?_) | (refine op_box1 hg ?_; clear hg; intro b w hg; refine WO.fr ?_)
      | (refine op_store hg ?_; clear hg; intro w hg; refine WO.fr ?_; try simp only [List.set_cons_succ, List.set_cons_zero] at hg)
      | (refine op_storeA hg ?_; clear hg; intro w hg; refine WO.fr ?_; try simp only [over, List.take_zero, List.take_succ_cons, List.drop_zero, List.drop_succ_cons, List.nil_append, List.cons_append, List.append_nil, List.length_cons, List.length_nil, Nat.zero_add, Nat.reduceAdd, splice, cellsL] at hg)
      | (refine op_pure hg ?_; clear hg; intro w hg; refine WO.fr ?_) | (refine op_pureB hg ?_; clear hg; intro w hg c hc; cases c <;> refine WO.fr ?_))
    | ((with_reducible refine WO.gid ?_); first | refine WO.on rfl ?_ | refine WO.offN rfl rfl ?_))
  exact ret1 rfl ⟨rfl, hg.drop⟩

theorem wLow_spec (hF : WinF pw p s f) (hO : Owns w0 f) : Calls Try.prog 28 #[.pointer (some ⟨pw, 0, none⟩)] w0 fun e w' => e = .returned (.int .i64 s.low) ∧ Goes w0 [] [] w' := by
  have hg := Goes.refl w0
  have p1 : ∀ {w Fs}, Goes w0 [] Fs w → Calls Try.prog 53 #[.pointer (some ⟨pw, 0, none⟩), .func (.func 54) #[] #[]] w _ := fun h => ask_spec (fun h2 => wmade_spec hF ((hO.on h).on h2)) (fun h2 => lowest_spec hF ((hO.on h).on h2))
  refine enter Try.func28 rfl (by simp only [Try.ntmps28, List.length_cons, List.length_nil, Nat.reduceAdd, Nat.reduceSub, List.replicate_succ, List.replicate_zero, List.cons_append, List.nil_append]; exact rfl) ?_
  repeat' (first
    | with_reducible refine QX.next ?_ | with_reducible refine WC.seq ?_ | with_reducible refine WC.region ?_ | with_reducible refine WC.block ?_ | with_reducible refine QX.bnorm ?_ | with_reducible refine QX.bret ?_ | with_reducible refine QX.ret ?_ | with_reducible refine QX.exit ?_ | with_reducible refine QX.bsame ?_ | with_reducible refine QX.bother rfl ?_
    | with_reducible refine WO.nil ?_ | with_reducible refine WC.skip ?_ | with_reducible refine WC.ret ?_ | with_reducible refine WC.exit ?_ | ((with_reducible refine WC.id ?_); first | refine WC.condT rfl ?_ | refine WC.condF rfl ?_)
    | (refine WC.quietG hg ?_; clear hg) | ((with_reducible refine WQ.nilG ?_); intro w hg)
    | ((with_reducible refine WQ.cid ?_); first | refine WQ.xG ?_ | refine WQ.pure ?_)
    | ((with_reducible refine WQ.gid ?_); first | refine WQ.on rfl ?_ | refine WQ.offN rfl rfl ?_)
    | ((with_reducible refine WO.cid ?_); first
      | refine WO.x ?_ | (refine op_alloc hg ?_; clear hg; intro b w hg; refine WO.fr ?_) | (refine op_boxA hg ?_; clear hg; intro b w hg; refine WO.fr ?_) | (refine op_box1 hg ?_; clear hg; intro b w hg; refine WO.fr ?_)
      | (refine op_store hg ?_; clear hg; intro w hg; refine WO.fr ?_; try simp only [List.set_cons_succ, List.set_cons_zero] at hg)
      | (refine op_storeA hg ?_; clear hg; intro w hg; refine WO.fr ?_; try simp only [over, List.take_zero, List.take_succ_cons, List.drop_zero, List.drop_succ_cons, List.nil_append, List.cons_append, List.append_nil, List.length_cons, List.length_nil, Nat.zero_add, Nat.reduceAdd, splice, cellsL] at hg)
      | (refine op_pure hg ?_; clear hg; intro w hg; refine WO.fr ?_) | (refine op_pureB hg ?_; clear hg; intro w hg c hc; cases c <;> refine WO.fr ?_))
    | ((with_reducible refine WO.gid ?_); first | refine WO.on rfl ?_ | refine WO.offN rfl rfl ?_))
  exact ret1 rfl ⟨rfl, hg.drop⟩
theorem wFloor_spec (hF : WinF pw p s f) (hO : Owns w0 f) : Calls Try.prog 31 #[.pointer (some ⟨pw, 0, none⟩)] w0 fun e w' => e = .returned (.int .i64 s.fl) ∧ Goes w0 [] [] w' := by
  have hg := Goes.refl w0
  have p1 : ∀ {w Fs}, Goes w0 [] Fs w → Calls Try.prog 53 #[.pointer (some ⟨pw, 0, none⟩), .func (.func 61) #[] #[]] w _ := fun h => ask_spec (fun h2 => wmade_spec hF ((hO.on h).on h2)) (fun h2 => wfloor_spec hF ((hO.on h).on h2))
  refine enter Try.func31 rfl (by simp only [Try.ntmps31, List.length_cons, List.length_nil, Nat.reduceAdd, Nat.reduceSub, List.replicate_succ, List.replicate_zero, List.cons_append, List.nil_append]; exact rfl) ?_
  repeat' (first
    | with_reducible refine QX.next ?_ | with_reducible refine WC.seq ?_ | with_reducible refine WC.region ?_ | with_reducible refine WC.block ?_ | with_reducible refine QX.bnorm ?_ | with_reducible refine QX.bret ?_ | with_reducible refine QX.ret ?_ | with_reducible refine QX.exit ?_ | with_reducible refine QX.bsame ?_ | with_reducible refine QX.bother rfl ?_
    | with_reducible refine WO.nil ?_ | with_reducible refine WC.skip ?_ | with_reducible refine WC.ret ?_ | with_reducible refine WC.exit ?_ | ((with_reducible refine WC.id ?_); first | refine WC.condT rfl ?_ | refine WC.condF rfl ?_)
    | (refine WC.quietG hg ?_; clear hg) | ((with_reducible refine WQ.nilG ?_); intro w hg)
    | ((with_reducible refine WQ.cid ?_); first | refine WQ.xG ?_ | refine WQ.pure ?_)
    | ((with_reducible refine WQ.gid ?_); first | refine WQ.on rfl ?_ | refine WQ.offN rfl rfl ?_)
    | ((with_reducible refine WO.cid ?_); first
      | refine WO.x ?_ | (refine op_alloc hg ?_; clear hg; intro b w hg; refine WO.fr ?_) | (refine op_boxA hg ?_; clear hg; intro b w hg; refine WO.fr ?_) | (refine op_box1 hg ?_; clear hg; intro b w hg; refine WO.fr ?_)
      | (refine op_store hg ?_; clear hg; intro w hg; refine WO.fr ?_; try simp only [List.set_cons_succ, List.set_cons_zero] at hg)
      | (refine op_storeA hg ?_; clear hg; intro w hg; refine WO.fr ?_; try simp only [over, List.take_zero, List.take_succ_cons, List.drop_zero, List.drop_succ_cons, List.nil_append, List.cons_append, List.append_nil, List.length_cons, List.length_nil, Nat.zero_add, Nat.reduceAdd, splice, cellsL] at hg)
      | (refine op_pure hg ?_; clear hg; intro w hg; refine WO.fr ?_) | (refine op_pureB hg ?_; clear hg; intro w hg c hc; cases c <;> refine WO.fr ?_))
    | ((with_reducible refine WO.gid ?_); first | refine WO.on rfl ?_ | refine WO.offN rfl rfl ?_))
  exact ret1 rfl ⟨rfl, hg.drop⟩
theorem wEnd_spec (hF : WinF pw p s f) (hO : Owns w0 f) : Calls Try.prog 30 #[.pointer (some ⟨pw, 0, none⟩)] w0 fun e w' => e = .returned (.int .i64 s.all.length) ∧ Goes w0 [] [] w' := by
  have hg := Goes.refl w0
  have p1 : ∀ {w Fs}, Goes w0 [] Fs w → Calls Try.prog 53 #[.pointer (some ⟨pw, 0, none⟩), .func (.func 60) #[] #[]] w _ := fun h => ask_spec (fun h2 => wmade_spec hF ((hO.on h).on h2)) (fun h2 => wend_spec hF ((hO.on h).on h2))
  refine enter Try.func30 rfl (by simp only [Try.ntmps30, List.length_cons, List.length_nil, Nat.reduceAdd, Nat.reduceSub, List.replicate_succ, List.replicate_zero, List.cons_append, List.nil_append]; exact rfl) ?_
  repeat' (first
    | with_reducible refine QX.next ?_ | with_reducible refine WC.seq ?_ | with_reducible refine WC.region ?_ | with_reducible refine WC.block ?_ | with_reducible refine QX.bnorm ?_ | with_reducible refine QX.bret ?_ | with_reducible refine QX.ret ?_ | with_reducible refine QX.exit ?_ | with_reducible refine QX.bsame ?_ | with_reducible refine QX.bother rfl ?_
    | with_reducible refine WO.nil ?_ | with_reducible refine WC.skip ?_ | with_reducible refine WC.ret ?_ | with_reducible refine WC.exit ?_ | ((with_reducible refine WC.id ?_); first | refine WC.condT rfl ?_ | refine WC.condF rfl ?_)
    | (refine WC.quietG hg ?_; clear hg) | ((with_reducible refine WQ.nilG ?_); intro w hg)
    | ((with_reducible refine WQ.cid ?_); first | refine WQ.xG ?_ | refine WQ.pure ?_)
    | ((with_reducible refine WQ.gid ?_); first | refine WQ.on rfl ?_ | refine WQ.offN rfl rfl ?_)
    | ((with_reducible refine WO.cid ?_); first
      | refine WO.x ?_ | (refine op_alloc hg ?_; clear hg; intro b w hg; refine WO.fr ?_) | (refine op_boxA hg ?_; clear hg; intro b w hg; refine WO.fr ?_) | (refine op_box1 hg ?_; clear hg; intro b w hg; refine WO.fr ?_)
      | (refine op_store hg ?_; clear hg; intro w hg; refine WO.fr ?_; try simp only [List.set_cons_succ, List.set_cons_zero] at hg)
      | (refine op_storeA hg ?_; clear hg; intro w hg; refine WO.fr ?_; try simp only [over, List.take_zero, List.take_succ_cons, List.drop_zero, List.drop_succ_cons, List.nil_append, List.cons_append, List.append_nil, List.length_cons, List.length_nil, Nat.zero_add, Nat.reduceAdd, splice, cellsL] at hg)
      | (refine op_pure hg ?_; clear hg; intro w hg; refine WO.fr ?_) | (refine op_pureB hg ?_; clear hg; intro w hg c hc; cases c <;> refine WO.fr ?_))
    | ((with_reducible refine WO.gid ?_); first | refine WO.on rfl ?_ | refine WO.offN rfl rfl ?_))
  exact ret1 rfl ⟨rfl, hg.drop⟩
theorem wRoom_spec (hF : WinF pw p s f) (hO : Owns w0 f) (hs : s.all.length ≤ 100000 ∧ s.low ≤ s.all.length ∧ p.bytes ≤ 4096) : Calls Try.prog 36 #[.pointer (some ⟨pw, 0, none⟩)] w0 fun e w' => e = .returned (.int .i64 (s.low + p.bytes - s.all.length)) ∧ Goes w0 [] [] w' := by
  have hg := Goes.refl w0
  have p1 : ∀ {w Fs}, Goes w0 [] Fs w → Calls Try.prog 53 #[.pointer (some ⟨pw, 0, none⟩), .func (.func 66) #[] #[]] w _ := fun h => ask_spec (fun h2 => wmade_spec hF ((hO.on h).on h2)) (fun h2 => wroom_spec hF ((hO.on h).on h2) hs)
  refine enter Try.func36 rfl (by simp only [Try.ntmps36, List.length_cons, List.length_nil, Nat.reduceAdd, Nat.reduceSub, List.replicate_succ, List.replicate_zero, List.cons_append, List.nil_append]; exact rfl) ?_
  repeat' (first
    | with_reducible refine QX.next ?_ | with_reducible refine WC.seq ?_ | with_reducible refine WC.region ?_ | with_reducible refine WC.block ?_ | with_reducible refine QX.bnorm ?_ | with_reducible refine QX.bret ?_ | with_reducible refine QX.ret ?_ | with_reducible refine QX.exit ?_ | with_reducible refine QX.bsame ?_ | with_reducible refine QX.bother rfl ?_
    | with_reducible refine WO.nil ?_ | with_reducible refine WC.skip ?_ | with_reducible refine WC.ret ?_ | with_reducible refine WC.exit ?_ | ((with_reducible refine WC.id ?_); first | refine WC.condT rfl ?_ | refine WC.condF rfl ?_)
    | (refine WC.quietG hg ?_; clear hg) | ((with_reducible refine WQ.nilG ?_); intro w hg)
    | ((with_reducible refine WQ.cid ?_); first | refine WQ.xG ?_ | refine WQ.pure ?_)
    | ((with_reducible refine WQ.gid ?_); first | refine WQ.on rfl ?_ | refine WQ.offN rfl rfl ?_)
    | ((with_reducible refine WO.cid ?_); first
      | refine WO.x ?_ | (refine op_alloc hg ?_; clear hg; intro b w hg; refine WO.fr ?_) | (refine op_boxA hg ?_; clear hg; intro b w hg; refine WO.fr ?_) | (refine op_box1 hg ?_; clear hg; intro b w hg; refine WO.fr ?_)
      | (refine op_store hg ?_; clear hg; intro w hg; refine WO.fr ?_; try simp only [List.set_cons_succ, List.set_cons_zero] at hg)
      | (refine op_storeA hg ?_; clear hg; intro w hg; refine WO.fr ?_; try simp only [over, List.take_zero, List.take_succ_cons, List.drop_zero, List.drop_succ_cons, List.nil_append, List.cons_append, List.append_nil, List.length_cons, List.length_nil, Nat.zero_add, Nat.reduceAdd, splice, cellsL] at hg)
      | (refine op_pure hg ?_; clear hg; intro w hg; refine WO.fr ?_) | (refine op_pureB hg ?_; clear hg; intro w hg c hc; cases c <;> refine WO.fr ?_))
    | ((with_reducible refine WO.gid ?_); first | refine WO.on rfl ?_ | refine WO.offN rfl rfl ?_))
  exact ret1 rfl ⟨rfl, hg.drop⟩
theorem wCached_spec (hF : WinF pw p s f) (hO : Owns w0 f) : Calls Try.prog 32 #[.pointer (some ⟨pw, 0, none⟩)] w0 fun e w' => e = .returned (.int .i64 s.ws.length) ∧ Goes w0 [] [] w' := by
  have hg := Goes.refl w0
  have p1 : ∀ {w Fs}, Goes w0 [] Fs w → Calls Try.prog 53 #[.pointer (some ⟨pw, 0, none⟩), .func (.func 62) #[] #[]] w _ := fun h => ask_spec (fun h2 => wmade_spec hF ((hO.on h).on h2)) (fun h2 => wcached_spec hF ((hO.on h).on h2))
  refine enter Try.func32 rfl (by simp only [Try.ntmps32, List.length_cons, List.length_nil, Nat.reduceAdd, Nat.reduceSub, List.replicate_succ, List.replicate_zero, List.cons_append, List.nil_append]; exact rfl) ?_
  repeat' (first
    | with_reducible refine QX.next ?_ | with_reducible refine WC.seq ?_ | with_reducible refine WC.region ?_ | with_reducible refine WC.block ?_ | with_reducible refine QX.bnorm ?_ | with_reducible refine QX.bret ?_ | with_reducible refine QX.ret ?_ | with_reducible refine QX.exit ?_ | with_reducible refine QX.bsame ?_ | with_reducible refine QX.bother rfl ?_
    | with_reducible refine WO.nil ?_ | with_reducible refine WC.skip ?_ | with_reducible refine WC.ret ?_ | with_reducible refine WC.exit ?_ | ((with_reducible refine WC.id ?_); first | refine WC.condT rfl ?_ | refine WC.condF rfl ?_)
    | (refine WC.quietG hg ?_; clear hg) | ((with_reducible refine WQ.nilG ?_); intro w hg)
    | ((with_reducible refine WQ.cid ?_); first | refine WQ.xG ?_ | refine WQ.pure ?_)
    | ((with_reducible refine WQ.gid ?_); first | refine WQ.on rfl ?_ | refine WQ.offN rfl rfl ?_)
    | ((with_reducible refine WO.cid ?_); first
      | refine WO.x ?_ | (refine op_alloc hg ?_; clear hg; intro b w hg; refine WO.fr ?_) | (refine op_boxA hg ?_; clear hg; intro b w hg; refine WO.fr ?_) | (refine op_box1 hg ?_; clear hg; intro b w hg; refine WO.fr ?_)
      | (refine op_store hg ?_; clear hg; intro w hg; refine WO.fr ?_; try simp only [List.set_cons_succ, List.set_cons_zero] at hg)
      | (refine op_storeA hg ?_; clear hg; intro w hg; refine WO.fr ?_; try simp only [over, List.take_zero, List.take_succ_cons, List.drop_zero, List.drop_succ_cons, List.nil_append, List.cons_append, List.append_nil, List.length_cons, List.length_nil, Nat.zero_add, Nat.reduceAdd, splice, cellsL] at hg)
      | (refine op_pure hg ?_; clear hg; intro w hg; refine WO.fr ?_) | (refine op_pureB hg ?_; clear hg; intro w hg c hc; cases c <;> refine WO.fr ?_))
    | ((with_reducible refine WO.gid ?_); first | refine WO.on rfl ?_ | refine WO.offN rfl rfl ?_))
  exact ret1 rfl ⟨rfl, hg.drop⟩
end
end Go.Proofs.Ytdjepfpmoeecaaa
