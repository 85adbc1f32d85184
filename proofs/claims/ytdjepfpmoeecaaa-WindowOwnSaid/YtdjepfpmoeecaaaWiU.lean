/- The window's law: WindowOwn. -/
import Derived.Test.YtdjepfpmoeecaaaWiK
import Derived.Test.YtdjepfpmoeecaaaWiN
import Derived.Test.YtdjepfpmoeecaaaWiJ
namespace Go.Proofs.Ytdjepfpmoeecaaa
open Go Go.RowKit
set_option maxRecDepth 10000
set_option linter.unusedSimpArgs false
set_option linter.unusedVariables false

def ow1 : WS := WS.zero.feed 9 2 [97, 98, 99, 100, 101, 102]
def od1 : WS := ⟨0, 0, [97, 98, 99, 100, 101, 102], []⟩
theorem ow_w1 : WOK 9 ow1 := (WOK.zero (p := sm 9) (by decide)).feed _
theorem od_w1 : WOK 9 od1 := ⟨by decide, by decide, by decide, by decide, by decide, by decide⟩
theorem ow_l1 : ow1.all.length ≤ 100 := by decide +kernel
theorem Goes.head4K {w0 w : World} {M : List Nat} {a b c d : Frag} {Fs : List Frag} (h : Goes w0 M (a :: b :: c :: d :: Fs) w) : Goes w0 M [a, b, c, d] w := h.sub (by simp)
theorem docSix {pm : Nat} : DocF pm (sm 9) od1 [(pm, .cells [.int .i64 9, .int .i64 2, .int .i64 2, .int .i64 3, .int .i64 2, .int .i64 2, .int .i64 2, .string (str [97, 98, 99, 100, 101, 102]), .int .i64 0, .int .i64 0, .slice none 0 0].toArray 71 (0, 0))] := ⟨none, 0, [], rfl, Rd.nil⟩

set_option maxHeartbeats 16000000 in
theorem WindowOwn_law (x y : WAct) (w0 : World) :
    Calls Try.prog 8 #[.agg x.enc.toArray, .agg y.enc.toArray] w0 fun e w' => e = .returned (.bool true) ∧ Goes w0 [] [] w' := by
  have hg := Goes.refl w0
  have p1 := walive_spec
  simp only [WAct.enc, Tok.enc, List.cons_append, List.nil_append]
  refine enter Try.func8 rfl (by simp only [Try.ntmps8, List.length_cons, List.length_nil, Nat.reduceAdd, Nat.reduceSub, List.replicate_succ, List.replicate_zero, List.cons_append, List.nil_append]; exact rfl) ?_
  repeat' (first
    | with_reducible refine QX.next ?_ | with_reducible refine WC.seq ?_ | with_reducible refine WC.region ?_ | with_reducible refine WC.block ?_ | with_reducible refine QX.bnorm ?_ | with_reducible refine QX.bret ?_ | with_reducible refine QX.ret ?_ | with_reducible refine QX.exit ?_ | with_reducible refine QX.bsame ?_ | with_reducible refine QX.bother rfl ?_
    | with_reducible refine WO.nil ?_ | with_reducible refine WC.skip ?_ | with_reducible refine WC.ret ?_ | with_reducible refine WC.exit ?_ | ((with_reducible refine WC.id ?_); first | refine WC.condT rfl ?_ | refine WC.condF rfl ?_)
    | (refine WC.quietG hg ?_; clear hg) | ((with_reducible refine WQ.nilG ?_); intro w hg)
    | ((with_reducible refine WQ.cid ?_); first | refine WQ.xG ?_ | refine WQ.pure ?_)
    | ((with_reducible refine WQ.gid ?_); first | refine WQ.on rfl ?_ | refine WQ.offN rfl rfl ?_)
    | ((with_reducible refine WO.cid ?_); first
      | refine WO.x ?_ | (refine op_alloc hg ?_; clear hg; intro b w hg; refine WO.fr ?_) | (refine op_boxA hg ?_; clear hg; intro b w hg; refine WO.fr ?_) | (refine op_box1 hg ?_; clear hg; intro b w hg; refine WO.fr ?_)
      | (refine op_store hg ?_; clear hg; intro w hg; refine WO.fr ?_; try simp only [List.set_cons_succ, List.set_cons_zero] at hg)
      | (refine op_storeA hg ?_; clear hg; intro w hg; refine WO.fr ?_; try simp only [over, List.take_zero, List.take_succ_cons, List.drop_zero, List.drop_succ_cons, List.nil_append, List.cons_append, List.append_nil, List.length_cons, List.length_nil, Nat.zero_add, Nat.reduceAdd, splice, cellsL] at hg)
      | (refine op_pure hg ?_; clear hg; intro w hg; refine WO.fr ?_) | (refine op_pureB hg ?_; clear hg; intro w hg c hc; cases c <;> refine WO.fr ?_))
    | ((with_reducible refine WO.gid ?_); first | refine WO.on rfl ?_ | refine WO.offN rfl rfl ?_))
  rename_i bx _
  obtain ⟨bY, rfl⟩ : ∃ z, z = b := ⟨b, rfl⟩
  refine op_buildRows (rows := [WAct.enc x, WAct.enc y]) (by first | (simp only [ev, gt, put, List.set_cons_succ, List.set_cons_zero, Nat.zero_add, Nat.add_zero, Nat.mul_one, Nat.reduceAdd, Nat.reduceMul, Int.toNat_natCast, Int.reduceToNat, List.map_cons, List.map_nil, List.cons_append, List.nil_append]; exact rfl) | simp only [ev, gt, put, List.set_cons_succ, List.set_cons_zero, Nat.zero_add, Nat.add_zero, Nat.mul_one, Nat.reduceAdd, Nat.reduceMul, Int.toNat_natCast, Int.reduceToNat, List.map_cons, List.map_nil, List.cons_append, List.nil_append]) rfl (by simp [WAct.enc, Tok.enc]) rfl rfl (by decide) hg ?_
  clear hg
  intro b1 w hg
  refine WO.fr ?_
  have hsl : ∀ {w Fs}, Goes w0 [] ([(b1, .cells (List.flatten [WAct.enc x, WAct.enc y]).toArray 66 (0, 0))] :: Fs) w → Sl w (some ⟨b1, 0, none⟩) 2 11 ([x, y].map WAct.enc) := fun h => (Own.row (e := 66) (sz := 11) (g := b1) (n := 2) (cap := 2) (cur := List.flatten [WAct.enc x, WAct.enc y]) (xs := List.flatten [WAct.enc x, WAct.enc y]) (by decide) (by decide) rfl (by rfl)).sl h (by simp [WAct.enc, Tok.enc]) rfl (by decide)
  have p2 : ∀ {w Fs}, Goes w0 [] ([(b1, .cells (List.flatten [WAct.enc x, WAct.enc y]).toArray 66 (0, 0))] :: Fs) w → Calls Try.prog 23 #[.slice (some ⟨b1, 0, none⟩) 2 2] w _ := fun h => wlight_spec _ _ 2 [x, y] (hsl h)
  cases hl : wlight [x, y] <;> rw [hl] at p2
  · repeat' (first
      | with_reducible refine QX.next ?_ | with_reducible refine WC.seq ?_ | with_reducible refine WC.region ?_ | with_reducible refine WC.block ?_ | with_reducible refine QX.bnorm ?_ | with_reducible refine QX.bret ?_ | with_reducible refine QX.ret ?_ | with_reducible refine QX.exit ?_ | with_reducible refine QX.bsame ?_ | with_reducible refine QX.bother rfl ?_
      | with_reducible refine WO.nil ?_ | with_reducible refine WC.skip ?_ | with_reducible refine WC.ret ?_ | with_reducible refine WC.exit ?_ | ((with_reducible refine WC.id ?_); first | refine WC.condT rfl ?_ | refine WC.condF rfl ?_)
      | (refine WC.quietG hg ?_; clear hg) | ((with_reducible refine WQ.nilG ?_); intro w hg)
      | ((with_reducible refine WQ.cid ?_); first | refine WQ.xG ?_ | refine WQ.pure ?_)
      | ((with_reducible refine WQ.gid ?_); first | refine WQ.on rfl ?_ | refine WQ.offN rfl rfl ?_)
      | ((with_reducible refine WO.cid ?_); first
        | refine WO.x ?_ | (refine op_alloc hg ?_; clear hg; intro b w hg; refine WO.fr ?_) | (refine op_boxA hg ?_; clear hg; intro b w hg; refine WO.fr ?_) | (refine op_box1 hg ?_; clear hg; intro b w hg; refine WO.fr ?_)
        | (refine op_store hg ?_; clear hg; intro w hg; refine WO.fr ?_; try simp only [List.set_cons_succ, List.set_cons_zero] at hg)
        | (refine op_storeA hg ?_; clear hg; intro w hg; refine WO.fr ?_; try simp only [over, List.take_zero, List.take_succ_cons, List.drop_zero, List.drop_succ_cons, List.nil_append, List.cons_append, List.append_nil, List.length_cons, List.length_nil, Nat.zero_add, Nat.reduceAdd, splice, cellsL] at hg)
        | (refine op_pure hg ?_; clear hg; intro w hg; refine WO.fr ?_) | (refine op_pureB hg ?_; clear hg; intro w hg c hc; cases c <;> refine WO.fr ?_))
      | ((with_reducible refine WO.gid ?_); first | refine WO.on rfl ?_ | refine WO.offN rfl rfl ?_))
    exact ret1 rfl ⟨rfl, hg.drop⟩
  have hlx := (light_memK hl).1 x (by simp)
  have hly := (light_memK hl).1 y (by simp)
  repeat' (first
    | with_reducible refine QX.next ?_ | with_reducible refine WC.seq ?_ | with_reducible refine WC.region ?_ | with_reducible refine WC.block ?_ | with_reducible refine QX.bnorm ?_ | with_reducible refine QX.bret ?_ | with_reducible refine QX.ret ?_ | with_reducible refine QX.exit ?_ | with_reducible refine QX.bsame ?_ | with_reducible refine QX.bother rfl ?_
    | with_reducible refine WO.nil ?_ | with_reducible refine WC.skip ?_ | with_reducible refine WC.ret ?_ | with_reducible refine WC.exit ?_ | ((with_reducible refine WC.id ?_); first | refine WC.condT rfl ?_ | refine WC.condF rfl ?_)
    | (refine WC.quietG hg ?_; clear hg) | ((with_reducible refine WQ.nilG ?_); intro w hg)
    | ((with_reducible refine WQ.cid ?_); first | refine WQ.xG ?_ | refine WQ.pure ?_)
    | ((with_reducible refine WQ.gid ?_); first | refine WQ.on rfl ?_ | refine WQ.offN rfl rfl ?_)
    | ((with_reducible refine WO.cid ?_); first
      | refine WO.x ?_ | (refine op_alloc hg ?_; clear hg; intro b w hg; refine WO.fr ?_) | (refine op_boxA hg ?_; clear hg; intro b w hg; refine WO.fr ?_) | (refine op_box1 hg ?_; clear hg; intro b w hg; refine WO.fr ?_)
      | (refine op_store hg ?_; clear hg; intro w hg; refine WO.fr ?_; try simp only [List.set_cons_succ, List.set_cons_zero] at hg)
      | (refine op_storeA hg ?_; clear hg; intro w hg; refine WO.fr ?_; try simp only [over, List.take_zero, List.take_succ_cons, List.drop_zero, List.drop_succ_cons, List.nil_append, List.cons_append, List.append_nil, List.length_cons, List.length_nil, Nat.zero_add, Nat.reduceAdd, splice, cellsL] at hg)
      | (refine op_pure hg ?_; clear hg; intro w hg; refine WO.fr ?_) | (refine op_pureB hg ?_; clear hg; intro w hg c hc; cases c <;> refine WO.fr ?_))
    | ((with_reducible refine WO.gid ?_); first | refine WO.on rfl ?_ | refine WO.offN rfl rfl ?_))
  clear p1 p2
  have p1 : ∀ {w Fs}, Goes w0 [] Fs w → Calls Try.prog 25 #[.int .i64 9] w _ := fun _ => wSmall_spec _ _
  simp only [Prm.enc] at p1
  repeat' (first
    | with_reducible refine QX.next ?_ | with_reducible refine WC.seq ?_ | with_reducible refine WC.region ?_ | with_reducible refine WC.block ?_ | with_reducible refine QX.bnorm ?_ | with_reducible refine QX.bret ?_ | with_reducible refine QX.ret ?_ | with_reducible refine QX.exit ?_ | with_reducible refine QX.bsame ?_ | with_reducible refine QX.bother rfl ?_
    | with_reducible refine WO.nil ?_ | with_reducible refine WC.skip ?_ | with_reducible refine WC.ret ?_ | with_reducible refine WC.exit ?_ | ((with_reducible refine WC.id ?_); first | refine WC.condT rfl ?_ | refine WC.condF rfl ?_)
    | (refine WC.quietG hg ?_; clear hg) | ((with_reducible refine WQ.nilG ?_); intro w hg)
    | ((with_reducible refine WQ.cid ?_); first | refine WQ.xG ?_ | refine WQ.pure ?_)
    | ((with_reducible refine WQ.gid ?_); first | refine WQ.on rfl ?_ | refine WQ.offN rfl rfl ?_)
    | ((with_reducible refine WO.cid ?_); first
      | refine WO.x ?_ | (refine op_alloc hg ?_; clear hg; intro b w hg; refine WO.fr ?_) | (refine op_boxA hg ?_; clear hg; intro b w hg; refine WO.fr ?_) | (refine op_box1 hg ?_; clear hg; intro b w hg; refine WO.fr ?_)
      | (refine op_store hg ?_; clear hg; intro w hg; refine WO.fr ?_; try simp only [List.set_cons_succ, List.set_cons_zero] at hg)
      | (refine op_storeA hg ?_; clear hg; intro w hg; refine WO.fr ?_; try simp only [over, List.take_zero, List.take_succ_cons, List.drop_zero, List.drop_succ_cons, List.nil_append, List.cons_append, List.append_nil, List.length_cons, List.length_nil, Nat.zero_add, Nat.reduceAdd, splice, cellsL] at hg)
      | (refine op_pure hg ?_; clear hg; intro w hg; refine WO.fr ?_) | (refine op_pureB hg ?_; clear hg; intro w hg c hc; cases c <;> refine WO.fr ?_))
    | ((with_reducible refine WO.gid ?_); first | refine WO.on rfl ?_ | refine WO.offN rfl rfl ?_))
  refine op_call (wNew_spec w (sm 9) (by decide)) ?_
  rintro _ w2 ⟨pw, f, rfl, hF, hg2⟩
  replace hg := hg.call0 hg2
  replace hg : Goes w0 [] [f, [(bY, .cells (List.toArray [.int .i64 y.kind, .string (str y.text), .int .i64 y.n, .int .i64 y.at', .int .i64 y.md, .int .i64 y.tok.kind, .int .i64 y.tok.rule, .int .i64 y.tok.fr, .int .i64 y.tok.at', .int .i64 y.tok.to, .int .i64 y.tok.mode]) 66 (0, 0))], [(bx, .cells (List.toArray [.int .i64 x.kind, .string (str x.text), .int .i64 x.n, .int .i64 x.at', .int .i64 x.md, .int .i64 x.tok.kind, .int .i64 x.tok.rule, .int .i64 x.tok.fr, .int .i64 x.tok.at', .int .i64 x.tok.to, .int .i64 x.tok.mode]) 66 (0, 0))]] w2 := Goes.head3K ((((hg.front 1).front 3).front 3).front 3)
  clear hg2
  refine ⟨_, rfl, ?_⟩
  refine WO.fr ?_
  repeat' (first
    | with_reducible refine QX.next ?_ | with_reducible refine WC.seq ?_ | with_reducible refine WC.region ?_ | with_reducible refine WC.block ?_ | with_reducible refine QX.bnorm ?_ | with_reducible refine QX.bret ?_ | with_reducible refine QX.ret ?_ | with_reducible refine QX.exit ?_ | with_reducible refine QX.bsame ?_ | with_reducible refine QX.bother rfl ?_
    | with_reducible refine WO.nil ?_ | with_reducible refine WC.skip ?_ | with_reducible refine WC.ret ?_ | with_reducible refine WC.exit ?_ | ((with_reducible refine WC.id ?_); first | refine WC.condT rfl ?_ | refine WC.condF rfl ?_)
    | (refine WC.quietG hg ?_; clear hg) | ((with_reducible refine WQ.nilG ?_); intro w hg)
    | ((with_reducible refine WQ.cid ?_); first | refine WQ.xG ?_ | refine WQ.pure ?_)
    | ((with_reducible refine WQ.gid ?_); first | refine WQ.on rfl ?_ | refine WQ.offN rfl rfl ?_)
    | ((with_reducible refine WO.cid ?_); first
      | refine WO.x ?_ | (refine op_alloc hg ?_; clear hg; intro b w hg; refine WO.fr ?_) | (refine op_boxA hg ?_; clear hg; intro b w hg; refine WO.fr ?_) | (refine op_box1 hg ?_; clear hg; intro b w hg; refine WO.fr ?_)
      | (refine op_store hg ?_; clear hg; intro w hg; refine WO.fr ?_; try simp only [List.set_cons_succ, List.set_cons_zero] at hg)
      | (refine op_storeA hg ?_; clear hg; intro w hg; refine WO.fr ?_; try simp only [over, List.take_zero, List.take_succ_cons, List.drop_zero, List.drop_succ_cons, List.nil_append, List.cons_append, List.append_nil, List.length_cons, List.length_nil, Nat.zero_add, Nat.reduceAdd, splice, cellsL] at hg)
      | (refine op_pure hg ?_; clear hg; intro w hg; refine WO.fr ?_) | (refine op_pureB hg ?_; clear hg; intro w hg c hc; cases c <;> refine WO.fr ?_))
    | ((with_reducible refine WO.gid ?_); first | refine WO.on rfl ?_ | refine WO.offN rfl rfl ?_))
  refine op_call (wFeed_spec (p := sm 9) [97, 98, 99, 100, 101, 102] hF hg.owns1 (WOK.zero (p := sm 9) (by decide)) (by decide) (by decide)) ?_
  rintro _ w ⟨f1, rfl, hF1, hg2⟩
  replace hg := hg.callF hg2
  clear hg2 hF
  replace hF1 : WinF pw (sm 9) ow1 f1 := hF1
  have hl1 := ow_l1
  have hw1 := ow_w1
  generalize WS.fedN (sm 9).bytes (sm 9).step WS.zero [97, 98, 99, 100, 101, 102] = k1
  generalize ow1 = s1 at hF1 hl1 hw1
  refine ⟨_, rfl, ?_⟩
  refine WO.fr ?_
  repeat' (first
    | with_reducible refine QX.next ?_ | with_reducible refine WC.seq ?_ | with_reducible refine WC.region ?_ | with_reducible refine WC.block ?_ | with_reducible refine QX.bnorm ?_ | with_reducible refine QX.bret ?_ | with_reducible refine QX.ret ?_ | with_reducible refine QX.exit ?_ | with_reducible refine QX.bsame ?_ | with_reducible refine QX.bother rfl ?_
    | with_reducible refine WO.nil ?_ | with_reducible refine WC.skip ?_ | with_reducible refine WC.ret ?_ | with_reducible refine WC.exit ?_ | ((with_reducible refine WC.id ?_); first | refine WC.condT rfl ?_ | refine WC.condF rfl ?_)
    | ((with_reducible refine WQ.cid ?_); first | refine WQ.xG ?_ | refine WQ.pure ?_)
    | ((with_reducible refine WQ.gid ?_); first | refine WQ.on rfl ?_ | refine WQ.offN rfl rfl ?_)
    | ((with_reducible refine WO.cid ?_); first
      | refine WO.x ?_ | (refine op_alloc hg ?_; clear hg; intro b w hg; refine WO.fr ?_) | (refine op_boxA hg ?_; clear hg; intro b w hg; refine WO.fr ?_) | (refine op_box1 hg ?_; clear hg; intro b w hg; refine WO.fr ?_)
      | (refine op_store hg ?_; clear hg; intro w hg; refine WO.fr ?_; try simp only [List.set_cons_succ, List.set_cons_zero] at hg)
      | (refine op_storeA hg ?_; clear hg; intro w hg; refine WO.fr ?_; try simp only [over, List.take_zero, List.take_succ_cons, List.drop_zero, List.drop_succ_cons, List.nil_append, List.cons_append, List.append_nil, List.length_cons, List.length_nil, Nat.zero_add, Nat.reduceAdd, splice, cellsL] at hg)
      | (refine op_pure hg ?_; clear hg; intro w hg; refine WO.fr ?_) | (refine op_pureB hg ?_; clear hg; intro w hg c hc; cases c <;> refine WO.fr ?_))
    | ((with_reducible refine WO.gid ?_); first | refine WO.on rfl ?_ | refine WO.offN rfl rfl ?_))
  have t1 : ∀ {w : World}, w.heap[bx]? = some (.cells (List.toArray [.int .i64 x.kind, .string (str x.text), .int .i64 x.n, .int .i64 x.at', .int .i64 x.md, .int .i64 x.tok.kind, .int .i64 x.tok.rule, .int .i64 x.tok.fr, .int .i64 x.tok.at', .int .i64 x.tok.to, .int .i64 x.tok.mode]) 66 (0, 0)) → Cells w ⟨bx, 0, none⟩ [.int .i64 x.kind, .string (str x.text), .int .i64 x.n, .int .i64 x.at', .int .i64 x.md, .int .i64 x.tok.kind, .int .i64 x.tok.rule, .int .i64 x.tok.fr, .int .i64 x.tok.at', .int .i64 x.tok.to, .int .i64 x.tok.mode] := fun h => heap_cells h rfl
  refine WC.drawn (fun w => w.heap[bx]? = some (.cells (List.toArray [.int .i64 x.kind, .string (str x.text), .int .i64 x.n, .int .i64 x.at', .int .i64 x.md, .int .i64 x.tok.kind, .int .i64 x.tok.rule, .int .i64 x.tok.fr, .int .i64 x.tok.at', .int .i64 x.tok.to, .int .i64 x.tok.mode]) 66 (0, 0))) [] hg ?_
  clear hg
  intro w hg
  have hS : (fun w => w.heap[bx]? = some (.cells (List.toArray [.int .i64 x.kind, .string (str x.text), .int .i64 x.n, .int .i64 x.at', .int .i64 x.md, .int .i64 x.tok.kind, .int .i64 x.tok.rule, .int .i64 x.tok.fr, .int .i64 x.tok.at', .int .i64 x.tok.to, .int .i64 x.tok.mode]) 66 (0, 0))) w := hg.own (bx, .cells (List.toArray [.int .i64 x.kind, .string (str x.text), .int .i64 x.n, .int .i64 x.at', .int .i64 x.md, .int .i64 x.tok.kind, .int .i64 x.tok.rule, .int .i64 x.tok.fr, .int .i64 x.tok.at', .int .i64 x.tok.to, .int .i64 x.tok.mode]) 66 (0, 0)) (by simp)
  refine WA.passM 0 hS ?_
  refine WA.passM 4 hS ?_
  refine WA.only 1 ?_
  refine op_pure hg ?_ (hc := wSmall_spec _ 9)
  clear hg hS
  intro w hg
  simp only [Prm.enc]
  refine WO.fr ?_
  have hS : (fun w => w.heap[bx]? = some (.cells (List.toArray [.int .i64 x.kind, .string (str x.text), .int .i64 x.n, .int .i64 x.at', .int .i64 x.md, .int .i64 x.tok.kind, .int .i64 x.tok.rule, .int .i64 x.tok.fr, .int .i64 x.tok.at', .int .i64 x.tok.to, .int .i64 x.tok.mode]) 66 (0, 0))) w := hg.own (bx, .cells (List.toArray [.int .i64 x.kind, .string (str x.text), .int .i64 x.n, .int .i64 x.at', .int .i64 x.md, .int .i64 x.tok.kind, .int .i64 x.tok.rule, .int .i64 x.tok.fr, .int .i64 x.tok.at', .int .i64 x.tok.to, .int .i64 x.tok.mode]) 66 (0, 0)) (by simp)
  refine WO.nilA hS ?_
  refine WA.passM 2 hS ?_
  refine WA.only 3 ?_
  refine op_boxA hg ?_
  clear hg hS
  intro bm w hg
  refine WO.fr ?_
  have hS : (fun w => w.heap[bx]? = some (.cells (List.toArray [.int .i64 x.kind, .string (str x.text), .int .i64 x.n, .int .i64 x.at', .int .i64 x.md, .int .i64 x.tok.kind, .int .i64 x.tok.rule, .int .i64 x.tok.fr, .int .i64 x.tok.at', .int .i64 x.tok.to, .int .i64 x.tok.mode]) 66 (0, 0))) w := hg.own (bx, .cells (List.toArray [.int .i64 x.kind, .string (str x.text), .int .i64 x.n, .int .i64 x.at', .int .i64 x.md, .int .i64 x.tok.kind, .int .i64 x.tok.rule, .int .i64 x.tok.fr, .int .i64 x.tok.at', .int .i64 x.tok.to, .int .i64 x.tok.mode]) 66 (0, 0)) (by simp)
  refine WO.nilA hS ?_
  refine WA.only 5 ?_
  refine op_call (wplay_spec (p := sm 9) x hF1 docSix (Goes.unpair ((((hg.front 3).front 3).front 2).front 3)).owns1 hw1 od_w1 (by omega) (by decide) (by omega)) ?_
  rintro _ w ⟨v0, f2, f4, rfl, _, hF2, _, hg2⟩
  replace hg := (Goes.unpair ((((hg.front 3).front 3).front 2).front 3)).call1 hg2
  replace hg : Goes w0 [] [f2, [(bY, .cells (List.toArray [.int .i64 y.kind, .string (str y.text), .int .i64 y.n, .int .i64 y.at', .int .i64 y.md, .int .i64 y.tok.kind, .int .i64 y.tok.rule, .int .i64 y.tok.fr, .int .i64 y.tok.at', .int .i64 y.tok.to, .int .i64 y.tok.mode]) 66 (0, 0))], [(bx, .cells (List.toArray [.int .i64 x.kind, .string (str x.text), .int .i64 x.n, .int .i64 x.at', .int .i64 x.md, .int .i64 x.tok.kind, .int .i64 x.tok.rule, .int .i64 x.tok.fr, .int .i64 x.tok.at', .int .i64 x.tok.to, .int .i64 x.tok.mode]) 66 (0, 0))]] w := ((((hg.front 1).front 3).front 3).front 3).head3K
  clear hg2 hF1 hS
  refine ⟨_, rfl, ?_⟩
  refine WO.fr ?_
  have hw2 : WOK 9 (x.app 9 2 s1) := hw1.app x
  have hl2 := app_len (B := 9) (st := 2) (s := s1) x
  replace hF2 : WinF pw (sm 9) (x.app 9 2 s1) f2 := hF2
  generalize x.app 9 2 s1 = s2 at hw2 hl2 hF2
  have hS : (fun w => w.heap[bx]? = some (.cells (List.toArray [.int .i64 x.kind, .string (str x.text), .int .i64 x.n, .int .i64 x.at', .int .i64 x.md, .int .i64 x.tok.kind, .int .i64 x.tok.rule, .int .i64 x.tok.fr, .int .i64 x.tok.at', .int .i64 x.tok.to, .int .i64 x.tok.mode]) 66 (0, 0))) w := hg.own (bx, .cells (List.toArray [.int .i64 x.kind, .string (str x.text), .int .i64 x.n, .int .i64 x.at', .int .i64 x.md, .int .i64 x.tok.kind, .int .i64 x.tok.rule, .int .i64 x.tok.fr, .int .i64 x.tok.at', .int .i64 x.tok.to, .int .i64 x.tok.mode]) 66 (0, 0)) (by simp)
  refine WO.nilA hS ?_
  refine WA.nil ?_
  have p1 : ∀ {w Fs}, Goes w0 [] (f2 :: Fs) w → Calls Try.prog 31 #[.pointer (some ⟨pw, 0, none⟩)] w _ := fun h => wFloor_spec hF2 h.owns1
  have p2 : ∀ {w Fs}, Goes w0 [] (f2 :: Fs) w → Calls Try.prog 28 #[.pointer (some ⟨pw, 0, none⟩)] w _ := fun h => wLow_spec hF2 h.owns1
  have p3 : ∀ {w Fs}, Goes w0 [] (f2 :: Fs) w → Calls Try.prog 30 #[.pointer (some ⟨pw, 0, none⟩)] w _ := fun h => wEnd_spec hF2 h.owns1
  have p4 : ∀ {w Fs}, Goes w0 [] (f2 :: Fs) w → Calls Try.prog 32 #[.pointer (some ⟨pw, 0, none⟩)] w _ := fun h => wCached_spec hF2 h.owns1
  clear hS t1
  repeat' (first
    | with_reducible refine QX.next ?_ | with_reducible refine WC.seq ?_ | with_reducible refine WC.region ?_ | with_reducible refine WC.block ?_ | with_reducible refine QX.bnorm ?_ | with_reducible refine QX.bret ?_ | with_reducible refine QX.ret ?_ | with_reducible refine QX.exit ?_ | with_reducible refine QX.bsame ?_ | with_reducible refine QX.bother rfl ?_
    | with_reducible refine WO.nil ?_ | with_reducible refine WC.skip ?_ | with_reducible refine WC.ret ?_ | with_reducible refine WC.exit ?_ | ((with_reducible refine WC.id ?_); first | refine WC.condT rfl ?_ | refine WC.condF rfl ?_)
    | (refine WC.quietG hg ?_; clear hg) | ((with_reducible refine WQ.nilG ?_); intro w hg)
    | ((with_reducible refine WQ.cid ?_); first | refine WQ.xG ?_ | refine WQ.pure ?_)
    | ((with_reducible refine WQ.gid ?_); first | refine WQ.on rfl ?_ | refine WQ.offN rfl rfl ?_)
    | ((with_reducible refine WO.cid ?_); first
      | refine WO.x ?_ | (refine op_alloc hg ?_; clear hg; intro b w hg; refine WO.fr ?_) | (refine op_boxA hg ?_; clear hg; intro b w hg; refine WO.fr ?_) | (refine op_box1 hg ?_; clear hg; intro b w hg; refine WO.fr ?_)
      | (refine op_store hg ?_; clear hg; intro w hg; refine WO.fr ?_; try simp only [List.set_cons_succ, List.set_cons_zero] at hg)
      | (refine op_storeA hg ?_; clear hg; intro w hg; refine WO.fr ?_; try simp only [over, List.take_zero, List.take_succ_cons, List.drop_zero, List.drop_succ_cons, List.nil_append, List.cons_append, List.append_nil, List.length_cons, List.length_nil, Nat.zero_add, Nat.reduceAdd, splice, cellsL] at hg)
      | (refine op_pure hg ?_; clear hg; intro w hg; refine WO.fr ?_) | (refine op_pureB hg ?_; clear hg; intro w hg c hc; cases c <;> refine WO.fr ?_))
    | ((with_reducible refine WO.gid ?_); first | refine WO.on rfl ?_ | refine WO.offN rfl rfl ?_))
  clear p1 p2 p3 p4
  refine op_call (wCopy_spec hF2 hg.owns1 hw2) ?_
  rintro _ w ⟨px, fx, rfl, hFx, hg2⟩
  replace hg : Goes w0 [] [fx, f2, [(bY, .cells (List.toArray [.int .i64 y.kind, .string (str y.text), .int .i64 y.n, .int .i64 y.at', .int .i64 y.md, .int .i64 y.tok.kind, .int .i64 y.tok.rule, .int .i64 y.tok.fr, .int .i64 y.tok.at', .int .i64 y.tok.to, .int .i64 y.tok.mode]) 66 (0, 0))], [(bx, .cells (List.toArray [.int .i64 x.kind, .string (str x.text), .int .i64 x.n, .int .i64 x.at', .int .i64 x.md, .int .i64 x.tok.kind, .int .i64 x.tok.rule, .int .i64 x.tok.fr, .int .i64 x.tok.at', .int .i64 x.tok.to, .int .i64 x.tok.mode]) 66 (0, 0))]] w := hg.call1 hg2
  clear hg2
  refine ⟨_, rfl, ?_⟩
  refine WO.fr ?_
  repeat' (first
    | with_reducible refine QX.next ?_ | with_reducible refine WC.seq ?_ | with_reducible refine WC.region ?_ | with_reducible refine WC.block ?_ | with_reducible refine QX.bnorm ?_ | with_reducible refine QX.bret ?_ | with_reducible refine QX.ret ?_ | with_reducible refine QX.exit ?_ | with_reducible refine QX.bsame ?_ | with_reducible refine QX.bother rfl ?_
    | with_reducible refine WO.nil ?_ | with_reducible refine WC.skip ?_ | with_reducible refine WC.ret ?_ | with_reducible refine WC.exit ?_ | ((with_reducible refine WC.id ?_); first | refine WC.condT rfl ?_ | refine WC.condF rfl ?_)
    | ((with_reducible refine WQ.cid ?_); first | refine WQ.xG ?_ | refine WQ.pure ?_)
    | ((with_reducible refine WQ.gid ?_); first | refine WQ.on rfl ?_ | refine WQ.offN rfl rfl ?_)
    | ((with_reducible refine WO.cid ?_); first
      | refine WO.x ?_ | (refine op_alloc hg ?_; clear hg; intro b w hg; refine WO.fr ?_) | (refine op_boxA hg ?_; clear hg; intro b w hg; refine WO.fr ?_) | (refine op_box1 hg ?_; clear hg; intro b w hg; refine WO.fr ?_)
      | (refine op_store hg ?_; clear hg; intro w hg; refine WO.fr ?_; try simp only [List.set_cons_succ, List.set_cons_zero] at hg)
      | (refine op_storeA hg ?_; clear hg; intro w hg; refine WO.fr ?_; try simp only [over, List.take_zero, List.take_succ_cons, List.drop_zero, List.drop_succ_cons, List.nil_append, List.cons_append, List.append_nil, List.length_cons, List.length_nil, Nat.zero_add, Nat.reduceAdd, splice, cellsL] at hg)
      | (refine op_pure hg ?_; clear hg; intro w hg; refine WO.fr ?_) | (refine op_pureB hg ?_; clear hg; intro w hg c hc; cases c <;> refine WO.fr ?_))
    | ((with_reducible refine WO.gid ?_); first | refine WO.on rfl ?_ | refine WO.offN rfl rfl ?_))
  have t1 : ∀ {w : World}, w.heap[bY]? = some (.cells (List.toArray [.int .i64 y.kind, .string (str y.text), .int .i64 y.n, .int .i64 y.at', .int .i64 y.md, .int .i64 y.tok.kind, .int .i64 y.tok.rule, .int .i64 y.tok.fr, .int .i64 y.tok.at', .int .i64 y.tok.to, .int .i64 y.tok.mode]) 66 (0, 0)) → Cells w ⟨bY, 0, none⟩ [.int .i64 y.kind, .string (str y.text), .int .i64 y.n, .int .i64 y.at', .int .i64 y.md, .int .i64 y.tok.kind, .int .i64 y.tok.rule, .int .i64 y.tok.fr, .int .i64 y.tok.at', .int .i64 y.tok.to, .int .i64 y.tok.mode] := fun h => heap_cells h rfl
  refine WC.drawn (fun w => w.heap[bY]? = some (.cells (List.toArray [.int .i64 y.kind, .string (str y.text), .int .i64 y.n, .int .i64 y.at', .int .i64 y.md, .int .i64 y.tok.kind, .int .i64 y.tok.rule, .int .i64 y.tok.fr, .int .i64 y.tok.at', .int .i64 y.tok.to, .int .i64 y.tok.mode]) 66 (0, 0))) [] hg ?_
  clear hg
  intro w hg
  have hS : (fun w => w.heap[bY]? = some (.cells (List.toArray [.int .i64 y.kind, .string (str y.text), .int .i64 y.n, .int .i64 y.at', .int .i64 y.md, .int .i64 y.tok.kind, .int .i64 y.tok.rule, .int .i64 y.tok.fr, .int .i64 y.tok.at', .int .i64 y.tok.to, .int .i64 y.tok.mode]) 66 (0, 0))) w := hg.own (bY, .cells (List.toArray [.int .i64 y.kind, .string (str y.text), .int .i64 y.n, .int .i64 y.at', .int .i64 y.md, .int .i64 y.tok.kind, .int .i64 y.tok.rule, .int .i64 y.tok.fr, .int .i64 y.tok.at', .int .i64 y.tok.to, .int .i64 y.tok.mode]) 66 (0, 0)) (by simp)
  refine WA.passM 0 hS ?_
  refine WA.passM 4 hS ?_
  refine WA.only 1 ?_
  refine op_pure hg ?_ (hc := wSmall_spec _ 9)
  clear hg hS
  intro w hg
  simp only [Prm.enc]
  refine WO.fr ?_
  have hS : (fun w => w.heap[bY]? = some (.cells (List.toArray [.int .i64 y.kind, .string (str y.text), .int .i64 y.n, .int .i64 y.at', .int .i64 y.md, .int .i64 y.tok.kind, .int .i64 y.tok.rule, .int .i64 y.tok.fr, .int .i64 y.tok.at', .int .i64 y.tok.to, .int .i64 y.tok.mode]) 66 (0, 0))) w := hg.own (bY, .cells (List.toArray [.int .i64 y.kind, .string (str y.text), .int .i64 y.n, .int .i64 y.at', .int .i64 y.md, .int .i64 y.tok.kind, .int .i64 y.tok.rule, .int .i64 y.tok.fr, .int .i64 y.tok.at', .int .i64 y.tok.to, .int .i64 y.tok.mode]) 66 (0, 0)) (by simp)
  refine WO.nilA hS ?_
  refine WA.passM 2 hS ?_
  refine WA.only 3 ?_
  refine op_boxA hg ?_
  clear hg hS
  intro bm2 w hg
  refine WO.fr ?_
  have hS : (fun w => w.heap[bY]? = some (.cells (List.toArray [.int .i64 y.kind, .string (str y.text), .int .i64 y.n, .int .i64 y.at', .int .i64 y.md, .int .i64 y.tok.kind, .int .i64 y.tok.rule, .int .i64 y.tok.fr, .int .i64 y.tok.at', .int .i64 y.tok.to, .int .i64 y.tok.mode]) 66 (0, 0))) w := hg.own (bY, .cells (List.toArray [.int .i64 y.kind, .string (str y.text), .int .i64 y.n, .int .i64 y.at', .int .i64 y.md, .int .i64 y.tok.kind, .int .i64 y.tok.rule, .int .i64 y.tok.fr, .int .i64 y.tok.at', .int .i64 y.tok.to, .int .i64 y.tok.mode]) 66 (0, 0)) (by simp)
  refine WO.nilA hS ?_
  refine WA.only 5 ?_
  refine op_call (wplay_spec (p := sm 9) y hFx (docZeroK (p := sm 9)) (Goes.unpair (((((hg.front 4).front 4).front 4).front 3).front 4)).owns1 hw2 (WOK.zero (p := sm 9) (by decide)) (by omega) (by decide) (by omega)) ?_
  rintro _ w ⟨v1, fx1, f5, rfl, _, hFx1, _, hg2⟩
  replace hg := (Goes.unpair (((((hg.front 4).front 4).front 4).front 3).front 4)).call1 hg2
  replace hg : Goes w0 [] [fx1, f2, [(bY, .cells (List.toArray [.int .i64 y.kind, .string (str y.text), .int .i64 y.n, .int .i64 y.at', .int .i64 y.md, .int .i64 y.tok.kind, .int .i64 y.tok.rule, .int .i64 y.tok.fr, .int .i64 y.tok.at', .int .i64 y.tok.to, .int .i64 y.tok.mode]) 66 (0, 0))], [(bx, .cells (List.toArray [.int .i64 x.kind, .string (str x.text), .int .i64 x.n, .int .i64 x.at', .int .i64 x.md, .int .i64 x.tok.kind, .int .i64 x.tok.rule, .int .i64 x.tok.fr, .int .i64 x.tok.at', .int .i64 x.tok.to, .int .i64 x.tok.mode]) 66 (0, 0))]] w := (((((hg.front 1).front 4).front 4).front 4).front 4).head4K
  clear hg2 hFx hS
  refine ⟨_, rfl, ?_⟩
  refine WO.fr ?_
  have hw3 : WOK 9 (y.app 9 2 s2) := hw2.app y
  have hl3 := app_len (B := 9) (st := 2) (s := s2) y
  replace hFx1 : WinF px (sm 9) (y.app 9 2 s2) fx1 := hFx1
  generalize y.app 9 2 s2 = s3 at hw3 hl3 hFx1
  have hS : (fun w => w.heap[bY]? = some (.cells (List.toArray [.int .i64 y.kind, .string (str y.text), .int .i64 y.n, .int .i64 y.at', .int .i64 y.md, .int .i64 y.tok.kind, .int .i64 y.tok.rule, .int .i64 y.tok.fr, .int .i64 y.tok.at', .int .i64 y.tok.to, .int .i64 y.tok.mode]) 66 (0, 0))) w := hg.own (bY, .cells (List.toArray [.int .i64 y.kind, .string (str y.text), .int .i64 y.n, .int .i64 y.at', .int .i64 y.md, .int .i64 y.tok.kind, .int .i64 y.tok.rule, .int .i64 y.tok.fr, .int .i64 y.tok.at', .int .i64 y.tok.to, .int .i64 y.tok.mode]) 66 (0, 0)) (by simp)
  refine WO.nilA hS ?_
  refine WA.nil ?_
  clear hS t1
  repeat' (first
    | with_reducible refine QX.next ?_ | with_reducible refine WC.seq ?_ | with_reducible refine WC.region ?_ | with_reducible refine WC.block ?_ | with_reducible refine QX.bnorm ?_ | with_reducible refine QX.bret ?_ | with_reducible refine QX.ret ?_ | with_reducible refine QX.exit ?_ | with_reducible refine QX.bsame ?_ | with_reducible refine QX.bother rfl ?_
    | with_reducible refine WO.nil ?_ | with_reducible refine WC.skip ?_ | with_reducible refine WC.ret ?_ | with_reducible refine WC.exit ?_ | ((with_reducible refine WC.id ?_); first | refine WC.condT rfl ?_ | refine WC.condF rfl ?_)
    | (refine WC.quietG hg ?_; clear hg) | ((with_reducible refine WQ.nilG ?_); intro w hg)
    | ((with_reducible refine WQ.cid ?_); first | refine WQ.xG ?_ | refine WQ.pure ?_)
    | ((with_reducible refine WQ.gid ?_); first | refine WQ.on rfl ?_ | refine WQ.offN rfl rfl ?_)
    | ((with_reducible refine WO.cid ?_); first
      | refine WO.x ?_ | (refine op_alloc hg ?_; clear hg; intro b w hg; refine WO.fr ?_) | (refine op_boxA hg ?_; clear hg; intro b w hg; refine WO.fr ?_) | (refine op_box1 hg ?_; clear hg; intro b w hg; refine WO.fr ?_)
      | (refine op_store hg ?_; clear hg; intro w hg; refine WO.fr ?_; try simp only [List.set_cons_succ, List.set_cons_zero] at hg)
      | (refine op_storeA hg ?_; clear hg; intro w hg; refine WO.fr ?_; try simp only [over, List.take_zero, List.take_succ_cons, List.drop_zero, List.drop_succ_cons, List.nil_append, List.cons_append, List.append_nil, List.length_cons, List.length_nil, Nat.zero_add, Nat.reduceAdd, splice, cellsL] at hg)
      | (refine op_pure hg ?_; clear hg; intro w hg; refine WO.fr ?_) | (refine op_pureB hg ?_; clear hg; intro w hg c hc; cases c <;> refine WO.fr ?_))
    | ((with_reducible refine WO.gid ?_); first | refine WO.on rfl ?_ | refine WO.offN rfl rfl ?_))
  refine op_call (wNeed_spec 9 hFx1 hg.owns1 hw3) ?_
  rintro _ w ⟨fx2, rfl, hFx2, hg2⟩
  replace hg := hg.callF hg2
  clear hg2
  have hw4 : WOK 9 (s3.need 9) := hw3.need 9
  have hl4 : (s3.need 9).all.length = s3.all.length := rfl
  refine ⟨_, rfl, ?_⟩
  refine WO.fr ?_
  repeat' (first
    | with_reducible refine QX.next ?_ | with_reducible refine WC.seq ?_ | with_reducible refine WC.region ?_ | with_reducible refine WC.block ?_ | with_reducible refine QX.bnorm ?_ | with_reducible refine QX.bret ?_ | with_reducible refine QX.ret ?_ | with_reducible refine QX.exit ?_ | with_reducible refine QX.bsame ?_ | with_reducible refine QX.bother rfl ?_
    | with_reducible refine WO.nil ?_ | with_reducible refine WC.skip ?_ | with_reducible refine WC.ret ?_ | with_reducible refine WC.exit ?_ | ((with_reducible refine WC.id ?_); first | refine WC.condT rfl ?_ | refine WC.condF rfl ?_)
    | (refine WC.quietG hg ?_; clear hg) | ((with_reducible refine WQ.nilG ?_); intro w hg)
    | ((with_reducible refine WQ.cid ?_); first | refine WQ.xG ?_ | refine WQ.pure ?_)
    | ((with_reducible refine WQ.gid ?_); first | refine WQ.on rfl ?_ | refine WQ.offN rfl rfl ?_)
    | ((with_reducible refine WO.cid ?_); first
      | refine WO.x ?_ | (refine op_alloc hg ?_; clear hg; intro b w hg; refine WO.fr ?_) | (refine op_boxA hg ?_; clear hg; intro b w hg; refine WO.fr ?_) | (refine op_box1 hg ?_; clear hg; intro b w hg; refine WO.fr ?_)
      | (refine op_store hg ?_; clear hg; intro w hg; refine WO.fr ?_; try simp only [List.set_cons_succ, List.set_cons_zero] at hg)
      | (refine op_storeA hg ?_; clear hg; intro w hg; refine WO.fr ?_; try simp only [over, List.take_zero, List.take_succ_cons, List.drop_zero, List.drop_succ_cons, List.nil_append, List.cons_append, List.append_nil, List.length_cons, List.length_nil, Nat.zero_add, Nat.reduceAdd, splice, cellsL] at hg)
      | (refine op_pure hg ?_; clear hg; intro w hg; refine WO.fr ?_) | (refine op_pureB hg ?_; clear hg; intro w hg c hc; cases c <;> refine WO.fr ?_))
    | ((with_reducible refine WO.gid ?_); first | refine WO.on rfl ?_ | refine WO.offN rfl rfl ?_))
  refine op_call (wReclaim_spec 20 hFx2 hg.owns1 hw4 (by omega)) ?_
  rintro _ w ⟨fx3, rfl, hFx3, hg2⟩
  replace hg := hg.callF hg2
  clear hg2
  refine ⟨_, rfl, ?_⟩
  refine WO.fr ?_
  have p1 : ∀ {w Fs}, Goes w0 [] (Fs) w → Calls Try.prog 38 #[.pointer none, .int .i64 0] w _ := fun h => wAt_no 0 (fun _ => wmade_nil _)
  repeat' (first
    | with_reducible refine QX.next ?_ | with_reducible refine WC.seq ?_ | with_reducible refine WC.region ?_ | with_reducible refine WC.block ?_ | with_reducible refine QX.bnorm ?_ | with_reducible refine QX.bret ?_ | with_reducible refine QX.ret ?_ | with_reducible refine QX.exit ?_ | with_reducible refine QX.bsame ?_ | with_reducible refine QX.bother rfl ?_
    | with_reducible refine WO.nil ?_ | with_reducible refine WC.skip ?_ | with_reducible refine WC.ret ?_ | with_reducible refine WC.exit ?_ | ((with_reducible refine WC.id ?_); first | refine WC.condT rfl ?_ | refine WC.condF rfl ?_)
    | (refine WC.quietG hg ?_; clear hg) | ((with_reducible refine WQ.nilG ?_); intro w hg)
    | ((with_reducible refine WQ.cid ?_); first | refine WQ.xG ?_ | refine WQ.pure ?_)
    | ((with_reducible refine WQ.gid ?_); first | refine WQ.on rfl ?_ | refine WQ.offN rfl rfl ?_)
    | ((with_reducible refine WO.cid ?_); first
      | refine WO.x ?_ | (refine op_alloc hg ?_; clear hg; intro b w hg; refine WO.fr ?_) | (refine op_boxA hg ?_; clear hg; intro b w hg; refine WO.fr ?_) | (refine op_box1 hg ?_; clear hg; intro b w hg; refine WO.fr ?_)
      | (refine op_store hg ?_; clear hg; intro w hg; refine WO.fr ?_; try simp only [List.set_cons_succ, List.set_cons_zero] at hg)
      | (refine op_storeA hg ?_; clear hg; intro w hg; refine WO.fr ?_; try simp only [over, List.take_zero, List.take_succ_cons, List.drop_zero, List.drop_succ_cons, List.nil_append, List.cons_append, List.append_nil, List.length_cons, List.length_nil, Nat.zero_add, Nat.reduceAdd, splice, cellsL] at hg)
      | (refine op_pure hg ?_; clear hg; intro w hg; refine WO.fr ?_) | (refine op_pureB hg ?_; clear hg; intro w hg c hc; cases c <;> refine WO.fr ?_))
    | ((with_reducible refine WO.gid ?_); first | refine WO.on rfl ?_ | refine WO.offN rfl rfl ?_))
  clear p1
  obtain ⟨bz, rfl⟩ : ∃ z, z = b := ⟨b, rfl⟩
  have p1 : ∀ {w Fs}, Goes w0 [] ([(bz, .cells [.pointer none, .pointer none, .int .i64 0, .int .i64 0, .int .i64 0, .int .i64 0, .int .i64 0, .int .i64 0, .int .i64 0, .int .i64 0].toArray 82 (0, 0))] :: Fs) w → Calls Try.prog 37 #[.pointer (some ⟨bz, 0, none⟩), .agg [.int .i64 y.at', .int .i64 y.md].toArray] w _ := fun h => wKnown_no _ _ (fun h2 => wmade_zero (h2.cellOld0 (heap_cell (h.own (bz, .cells [.pointer none, .pointer none, .int .i64 0, .int .i64 0, .int .i64 0, .int .i64 0, .int .i64 0, .int .i64 0, .int .i64 0, .int .i64 0].toArray 82 (0, 0)) (by simp)) rfl)))
  simp only [Tok.enc, Tok.none] at p1
  have p2 : ∀ {w Fs}, Goes w0 [] (Fs) w → Calls Try.prog 27 #[.pointer none, .string { data := #[97] }] w _ := fun h => wFeed_no _ (fun _ => wmade_nil _)
  have p3 : ∀ {w Fs}, Goes w0 [] (Fs) w → Calls Try.prog 40 #[.pointer none, .int .i64 5] w _ := fun h => wNeed_no 5 (fun _ => wmade_nil _)
  have p4 : ∀ {w Fs}, Goes w0 [] (Fs) w → Calls Try.prog 41 #[.pointer none, .int .i64 5] w _ := fun h => wReclaim_no 5 (fun _ => wmade_nil _)
  have p5 : ∀ {w Fs}, Goes w0 [] (Fs) w → Calls Try.prog 28 #[.pointer none] w _ := fun h => wLow_no (fun _ => wmade_nil _)
  have p6 : ∀ {w Fs}, Goes w0 [] (Fs) w → Calls Try.prog 31 #[.pointer none] w _ := fun h => wFloor_no (fun _ => wmade_nil _)
  repeat' (first
    | with_reducible refine QX.next ?_ | with_reducible refine WC.seq ?_ | with_reducible refine WC.region ?_ | with_reducible refine WC.block ?_ | with_reducible refine QX.bnorm ?_ | with_reducible refine QX.bret ?_ | with_reducible refine QX.ret ?_ | with_reducible refine QX.exit ?_ | with_reducible refine QX.bsame ?_ | with_reducible refine QX.bother rfl ?_
    | with_reducible refine WO.nil ?_ | with_reducible refine WC.skip ?_ | with_reducible refine WC.ret ?_ | with_reducible refine WC.exit ?_ | ((with_reducible refine WC.id ?_); first | refine WC.condT rfl ?_ | refine WC.condF rfl ?_)
    | (refine WC.quietG hg ?_; clear hg) | ((with_reducible refine WQ.nilG ?_); intro w hg)
    | ((with_reducible refine WQ.cid ?_); first | refine WQ.xG ?_ | refine WQ.pure ?_)
    | ((with_reducible refine WQ.gid ?_); first | refine WQ.on rfl ?_ | refine WQ.offN rfl rfl ?_)
    | ((with_reducible refine WO.cid ?_); first
      | refine WO.x ?_ | (refine op_alloc hg ?_; clear hg; intro b w hg; refine WO.fr ?_) | (refine op_boxA hg ?_; clear hg; intro b w hg; refine WO.fr ?_) | (refine op_box1 hg ?_; clear hg; intro b w hg; refine WO.fr ?_)
      | (refine op_store hg ?_; clear hg; intro w hg; refine WO.fr ?_; try simp only [List.set_cons_succ, List.set_cons_zero] at hg)
      | (refine op_storeA hg ?_; clear hg; intro w hg; refine WO.fr ?_; try simp only [over, List.take_zero, List.take_succ_cons, List.drop_zero, List.drop_succ_cons, List.nil_append, List.cons_append, List.append_nil, List.length_cons, List.length_nil, Nat.zero_add, Nat.reduceAdd, splice, cellsL] at hg)
      | (refine op_pure hg ?_; clear hg; intro w hg; refine WO.fr ?_) | (refine op_pureB hg ?_; clear hg; intro w hg c hc; cases c <;> refine WO.fr ?_))
    | ((with_reducible refine WO.gid ?_); first | refine WO.on rfl ?_ | refine WO.offN rfl rfl ?_))
  clear p1 p2 p3 p4 p5 p6
  have hz : ∀ {w x Fs}, Goes w0 [] (x :: [(bz, .cells [.pointer none, .pointer none, .int .i64 0, .int .i64 0, .int .i64 0, .int .i64 0, .int .i64 0, .int .i64 0, .int .i64 0, .int .i64 0].toArray 82 (0, 0))] :: Fs) w → ∀ {w1}, Goes w [] [] w1 → Calls Try.prog 50 #[.pointer (some ⟨bz, 0, none⟩)] w1 fun e w' => e = .returned (.bool false) ∧ Goes w1 [] [] w' := fun h _ h2 => wmade_zero (h2.cellOld0 (heap_cell (h.own (bz, .cells [.pointer none, .pointer none, .int .i64 0, .int .i64 0, .int .i64 0, .int .i64 0, .int .i64 0, .int .i64 0, .int .i64 0, .int .i64 0].toArray 82 (0, 0)) (by simp)) rfl))
  have p1 : ∀ {w Fs}, Goes w0 [] (Fs) w → Calls Try.prog 30 #[.pointer none] w _ := fun h => wEnd_no (fun _ => wmade_nil _)
  have p2 : ∀ {w Fs}, Goes w0 [] (Fs) w → Calls Try.prog 36 #[.pointer none] w _ := fun h => wRoom_no (fun _ => wmade_nil _)
  have p3 : ∀ {w Fs}, Goes w0 [] (Fs) w → Calls Try.prog 32 #[.pointer none] w _ := fun h => wCached_no (fun _ => wmade_nil _)
  have p4 : ∀ {w x Fs}, Goes w0 [] (x :: [(bz, .cells [.pointer none, .pointer none, .int .i64 0, .int .i64 0, .int .i64 0, .int .i64 0, .int .i64 0, .int .i64 0, .int .i64 0, .int .i64 0].toArray 82 (0, 0))] :: Fs) w → Calls Try.prog 27 #[.pointer (some ⟨bz, 0, none⟩), .string { data := #[97] }] w _ := fun h => wFeed_no _ (hz h)
  have p5 : ∀ {w x Fs}, Goes w0 [] (x :: [(bz, .cells [.pointer none, .pointer none, .int .i64 0, .int .i64 0, .int .i64 0, .int .i64 0, .int .i64 0, .int .i64 0, .int .i64 0, .int .i64 0].toArray 82 (0, 0))] :: Fs) w → Calls Try.prog 36 #[.pointer (some ⟨bz, 0, none⟩)] w _ := fun h => wRoom_no (hz h)
  have p6 : ∀ {w x Fs}, Goes w0 [] (x :: [(bz, .cells [.pointer none, .pointer none, .int .i64 0, .int .i64 0, .int .i64 0, .int .i64 0, .int .i64 0, .int .i64 0, .int .i64 0, .int .i64 0].toArray 82 (0, 0))] :: Fs) w → Calls Try.prog 30 #[.pointer (some ⟨bz, 0, none⟩)] w _ := fun h => wEnd_no (hz h)
  repeat' (first
    | with_reducible refine QX.next ?_ | with_reducible refine WC.seq ?_ | with_reducible refine WC.region ?_ | with_reducible refine WC.block ?_ | with_reducible refine QX.bnorm ?_ | with_reducible refine QX.bret ?_ | with_reducible refine QX.ret ?_ | with_reducible refine QX.exit ?_ | with_reducible refine QX.bsame ?_ | with_reducible refine QX.bother rfl ?_
    | with_reducible refine WO.nil ?_ | with_reducible refine WC.skip ?_ | with_reducible refine WC.ret ?_ | with_reducible refine WC.exit ?_ | ((with_reducible refine WC.id ?_); first | refine WC.condT rfl ?_ | refine WC.condF rfl ?_)
    | (refine WC.quietG hg ?_; clear hg) | ((with_reducible refine WQ.nilG ?_); intro w hg)
    | ((with_reducible refine WQ.cid ?_); first | refine WQ.xG ?_ | refine WQ.pure ?_)
    | ((with_reducible refine WQ.gid ?_); first | refine WQ.on rfl ?_ | refine WQ.offN rfl rfl ?_)
    | ((with_reducible refine WO.cid ?_); first
      | refine WO.x ?_ | (refine op_alloc hg ?_; clear hg; intro b w hg; refine WO.fr ?_) | (refine op_boxA hg ?_; clear hg; intro b w hg; refine WO.fr ?_) | (refine op_box1 hg ?_; clear hg; intro b w hg; refine WO.fr ?_)
      | (refine op_store hg ?_; clear hg; intro w hg; refine WO.fr ?_; try simp only [List.set_cons_succ, List.set_cons_zero] at hg)
      | (refine op_storeA hg ?_; clear hg; intro w hg; refine WO.fr ?_; try simp only [over, List.take_zero, List.take_succ_cons, List.drop_zero, List.drop_succ_cons, List.nil_append, List.cons_append, List.append_nil, List.length_cons, List.length_nil, Nat.zero_add, Nat.reduceAdd, splice, cellsL] at hg)
      | (refine op_pure hg ?_; clear hg; intro w hg; refine WO.fr ?_) | (refine op_pureB hg ?_; clear hg; intro w hg c hc; cases c <;> refine WO.fr ?_))
    | ((with_reducible refine WO.gid ?_); first | refine WO.on rfl ?_ | refine WO.offN rfl rfl ?_))
  clear p1 p2 p3 p4 p5 p6
  have p1 : ∀ {w x Fs}, Goes w0 [] (x :: [(bz, .cells [.pointer none, .pointer none, .int .i64 0, .int .i64 0, .int .i64 0, .int .i64 0, .int .i64 0, .int .i64 0, .int .i64 0, .int .i64 0].toArray 82 (0, 0))] :: Fs) w → Calls Try.prog 40 #[.pointer (some ⟨bz, 0, none⟩), .int .i64 3] w _ := fun h => wNeed_no 3 (hz h)
  have p2 : ∀ {w Fs}, Goes w0 [] (Fs) w → Calls Try.prog 42 #[.pointer none, .agg [.int .i64 y.at', .int .i64 y.md].toArray, .agg y.tok.enc.toArray] w _ := fun h => wKeep_no _ _ _ (fun _ => wmade_nil _)
  have p3 : ∀ {w x Fs}, Goes w0 [] (x :: [(bz, .cells [.pointer none, .pointer none, .int .i64 0, .int .i64 0, .int .i64 0, .int .i64 0, .int .i64 0, .int .i64 0, .int .i64 0, .int .i64 0].toArray 82 (0, 0))] :: Fs) w → Calls Try.prog 42 #[.pointer (some ⟨bz, 0, none⟩), .agg [.int .i64 y.at', .int .i64 y.md].toArray, .agg y.tok.enc.toArray] w _ := fun h => wKeep_no _ _ _ (hz h)
  have p4 : ∀ {w Fs}, Goes w0 [] (Fs) w → Calls Try.prog 39 #[.pointer none] w _ := fun h => wCopy_no (fun _ => wmade_nil _)
  have p5 : ∀ {w x Fs}, Goes w0 [] (x :: [(bz, .cells [.pointer none, .pointer none, .int .i64 0, .int .i64 0, .int .i64 0, .int .i64 0, .int .i64 0, .int .i64 0, .int .i64 0, .int .i64 0].toArray 82 (0, 0))] :: Fs) w → Calls Try.prog 33 #[.pointer (some ⟨bz, 0, none⟩), .int .i64 0, .int .i64 9] w _ := fun h => wText_no 0 9 (hz h)
  simp only [Tok.enc] at p2 p3
  repeat' (first
    | with_reducible refine QX.next ?_ | with_reducible refine WC.seq ?_ | with_reducible refine WC.region ?_ | with_reducible refine WC.block ?_ | with_reducible refine QX.bnorm ?_ | with_reducible refine QX.bret ?_ | with_reducible refine QX.ret ?_ | with_reducible refine QX.exit ?_ | with_reducible refine QX.bsame ?_ | with_reducible refine QX.bother rfl ?_
    | with_reducible refine WO.nil ?_ | with_reducible refine WC.skip ?_ | with_reducible refine WC.ret ?_ | with_reducible refine WC.exit ?_ | ((with_reducible refine WC.id ?_); first | refine WC.condT rfl ?_ | refine WC.condF rfl ?_)
    | (refine WC.quietG hg ?_; clear hg) | ((with_reducible refine WQ.nilG ?_); intro w hg)
    | ((with_reducible refine WQ.cid ?_); first | refine WQ.xG ?_ | refine WQ.pure ?_)
    | ((with_reducible refine WQ.gid ?_); first | refine WQ.on rfl ?_ | refine WQ.offN rfl rfl ?_)
    | ((with_reducible refine WO.cid ?_); first
      | refine WO.x ?_ | (refine op_alloc hg ?_; clear hg; intro b w hg; refine WO.fr ?_) | (refine op_boxA hg ?_; clear hg; intro b w hg; refine WO.fr ?_) | (refine op_box1 hg ?_; clear hg; intro b w hg; refine WO.fr ?_)
      | (refine op_store hg ?_; clear hg; intro w hg; refine WO.fr ?_; try simp only [List.set_cons_succ, List.set_cons_zero] at hg)
      | (refine op_storeA hg ?_; clear hg; intro w hg; refine WO.fr ?_; try simp only [over, List.take_zero, List.take_succ_cons, List.drop_zero, List.drop_succ_cons, List.nil_append, List.cons_append, List.append_nil, List.length_cons, List.length_nil, Nat.zero_add, Nat.reduceAdd, splice, cellsL] at hg)
      | (refine op_pure hg ?_; clear hg; intro w hg; refine WO.fr ?_) | (refine op_pureB hg ?_; clear hg; intro w hg c hc; cases c <;> refine WO.fr ?_))
    | ((with_reducible refine WO.gid ?_); first | refine WO.on rfl ?_ | refine WO.offN rfl rfl ?_))
  clear p1 p2 p3 p4 p5
  have p1 : ∀ {w u v z Fs}, Goes w0 [] (u :: v :: z :: f2 :: Fs) w → Calls Try.prog 31 #[.pointer (some ⟨pw, 0, none⟩)] w _ := fun h => wFloor_spec hF2 (h.front 3).owns1
  have p2 : ∀ {w u v z Fs}, Goes w0 [] (u :: v :: z :: f2 :: Fs) w → Calls Try.prog 28 #[.pointer (some ⟨pw, 0, none⟩)] w _ := fun h => wLow_spec hF2 (h.front 3).owns1
  have p3 : ∀ {w u v z Fs}, Goes w0 [] (u :: v :: z :: f2 :: Fs) w → Calls Try.prog 30 #[.pointer (some ⟨pw, 0, none⟩)] w _ := fun h => wEnd_spec hF2 (h.front 3).owns1
  have p4 : ∀ {w u v z Fs}, Goes w0 [] (u :: v :: z :: f2 :: Fs) w → Calls Try.prog 32 #[.pointer (some ⟨pw, 0, none⟩)] w _ := fun h => wCached_spec hF2 (h.front 3).owns1
  have p5 := walive_spec
  repeat' (first
    | with_reducible refine QX.next ?_ | with_reducible refine WC.seq ?_ | with_reducible refine WC.region ?_ | with_reducible refine WC.block ?_ | with_reducible refine QX.bnorm ?_ | with_reducible refine QX.bret ?_ | with_reducible refine QX.ret ?_ | with_reducible refine QX.exit ?_ | with_reducible refine QX.bsame ?_ | with_reducible refine QX.bother rfl ?_
    | with_reducible refine WO.nil ?_ | with_reducible refine WC.skip ?_ | with_reducible refine WC.ret ?_ | with_reducible refine WC.exit ?_ | ((with_reducible refine WC.id ?_); first | refine WC.condT rfl ?_ | refine WC.condF rfl ?_)
    | (refine WC.quietG hg ?_; clear hg) | ((with_reducible refine WQ.nilG ?_); intro w hg)
    | ((with_reducible refine WQ.cid ?_); first | refine WQ.xG ?_ | refine WQ.pure ?_)
    | ((with_reducible refine WQ.gid ?_); first | refine WQ.on rfl ?_ | refine WQ.offN rfl rfl ?_)
    | ((with_reducible refine WO.cid ?_); first
      | refine WO.x ?_ | (refine op_alloc hg ?_; clear hg; intro b w hg; refine WO.fr ?_) | (refine op_boxA hg ?_; clear hg; intro b w hg; refine WO.fr ?_) | (refine op_box1 hg ?_; clear hg; intro b w hg; refine WO.fr ?_)
      | (refine op_store hg ?_; clear hg; intro w hg; refine WO.fr ?_; try simp only [List.set_cons_succ, List.set_cons_zero] at hg)
      | (refine op_storeA hg ?_; clear hg; intro w hg; refine WO.fr ?_; try simp only [over, List.take_zero, List.take_succ_cons, List.drop_zero, List.drop_succ_cons, List.nil_append, List.cons_append, List.append_nil, List.length_cons, List.length_nil, Nat.zero_add, Nat.reduceAdd, splice, cellsL] at hg)
      | (refine op_pure hg ?_; clear hg; intro w hg; refine WO.fr ?_) | (refine op_pureB hg ?_; clear hg; intro w hg c hc; cases c <;> refine WO.fr ?_))
    | ((with_reducible refine WO.gid ?_); first | refine WO.on rfl ?_ | refine WO.offN rfl rfl ?_))
  exact ret1 rfl ⟨rfl, hg.drop⟩
end Go.Proofs.Ytdjepfpmoeecaaa
