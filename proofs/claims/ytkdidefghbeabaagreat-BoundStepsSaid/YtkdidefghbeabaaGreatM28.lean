/- The law. -/
import Derived.Test.YtkdidefghbeabaaGreatM27
namespace Go.Proofs.YtkdidefghbeabaaGreat
open Go Go.RowKit
set_option maxRecDepth 10000
set_option linter.unusedSimpArgs false
set_option linter.unusedVariables false
theorem Goes.lawA {w0 w : World} {M : List Nat} {f0 f1 f2 f3 f4 f5 f6 f7 : Frag} {Fs : List Frag} (hg : Goes w0 M (f0 :: f1 :: f2 :: f3 :: f4 :: f5 :: f6 :: f7 :: Fs) w) : Goes w0 M (f2 :: f3 :: f4 :: f5 :: f6 :: f0 :: [] :: f1 :: f7 :: Fs) w := by
  have h2 := ((((((((hg.front 7).front 2).front 2).front 7).front 7).front 7).front 7).front 7)
  exact h2.sub (by simp [pull, pullIn])
theorem Goes.lawB {w0 w : World} {M : List Nat} {f0 f1 f2 f3 f4 f5 f6 f7 f8 : Frag} {Fs : List Frag} (hg : Goes w0 M (f0 :: f1 :: f2 :: f3 :: f4 :: f5 :: f6 :: f7 :: f8 :: Fs) w) : Goes w0 M (f0 :: f1 :: f2 :: f3 :: f4 :: f8 :: Fs) w := ((((((((((hg.front 8).front 5).front 5).front 5).front 5).front 5).front 8).front 8).front 8)).drop0.drop0.drop0
theorem steps_at {W w : World} {f0 f1 f2 f3 f4 : Frag} {pj : Nat} {j : JB} {n : Int} {Fs : List Frag} (hn : j.steps = n) (hg : Goes W [] (f0 :: f1 :: f2 :: f3 :: f4 :: jF pj j :: Fs) w) : Calls Tryz.prog 12 #[.pointer (some ⟨pj, 0, none⟩)] w fun e w' => e = .returned (.int .i64 n) ∧ Goes w [] [] w' := by
  subst hn
  exact jSteps_spec (W := W) (heap_cell (hg.own (pj, .cells [.int .i64 j.kind, .int .i64 j.n, .string (str j.data), .int .i64 j.steps, .bool j.done, .int .i64 j.at', .int .i64 j.md, .int .i64 j.left, ptrO j.ps, .func (.func j.fn) #[] #[]].toArray 86 (0, 0)) (by simp [jF])) rfl)
section
variable {W : World} {vm vd va vo vh : Value} {q : PPlan} {ops : List POp} {hid : List Int}
set_option maxHeartbeats 16000000 in
theorem law_spec (hL : LexAt W [vm, vd, va] q.L) (hO : OpsAt W vo ops) (hH : HidAt W vh hid) : Calls Tryz.prog 3 #[.agg (q.enc vm vd va).toArray, vo, vh] W fun e w' => e = .returned (.bool true) ∧ Goes W [] [] w' := by
  have hg := Goes.refl W
  have hli := @light_spec
  have hri := @pRight_spec
  obtain ⟨am, cm, ad, cd, aa, ca, rfl, rfl, rfl⟩ : ∃ am cm ad cd aa ca, vm = .slice am q.L.modes.length cm ∧ vd = .slice ad q.L.dfas.length cd ∧ va = .slice aa q.L.acts.length ca := by
    obtain ⟨_, _, _, he, hM, hD, hA⟩ := hL
    obtain ⟨am, cm, e1, hlm⟩ := hM.slice
    obtain ⟨ad, cd, e2, hld⟩ := hD.slice
    obtain ⟨aa, ca, e3, hla⟩ := hA.slice
    simp only [List.cons.injEq] at he
    exact ⟨am, cm, ad, cd, aa, ca, he.1.trans e1, he.2.1.trans e2, he.2.2.1.trans e3⟩
  obtain ⟨ao, co, rfl, hlo⟩ := hO.slice
  obtain ⟨ah, ch, rfl, hlh⟩ := hH.slice
  replace hli := fun w => hli w (.slice am q.L.modes.length cm) (.slice ad q.L.dfas.length cd) (.slice aa q.L.acts.length ca) q
  replace hri := fun w => hri w (.slice am q.L.modes.length cm) (.slice ad q.L.dfas.length cd) (.slice aa q.L.acts.length ca) q
  obtain ⟨L, md, p⟩ := q
  simp only [PPlan.enc, Prm.enc] at hli hri ⊢
  have p1 : ∀ {w Fs}, Goes W [] Fs w → Calls Tryz.prog 7 #[] w _ := fun _ => alive_spec _
  refine enter Tryz.func3 rfl (by simp only [Tryz.ntmps3, List.length_cons, List.length_nil, Nat.reduceAdd, Nat.reduceSub, List.replicate_succ, List.replicate_zero, List.cons_append, List.nil_append]; exact rfl) ?_
  repeat' (first
   | (with_reducible first | refine QX.next ?_ | refine WC.seq ?_ | refine WC.region ?_ | refine WC.block ?_ | refine QX.bnorm ?_ | refine QX.bret ?_ | refine QX.ret ?_ | refine QX.exit ?_ | refine QX.bsame ?_ | refine QX.bother rfl ?_ | refine WO.nil ?_ | refine WC.skip ?_ | refine WC.ret ?_ | refine WC.exit ?_)
   | ((with_reducible refine WC.id ?_); first | refine WC.condT rfl ?_ | refine WC.condF rfl ?_)
   | (refine WC.quietG hg ?_; clear hg) | ((with_reducible refine WQ.nilG ?_); intro w hg) | ((with_reducible refine WQ.cid ?_); first | refine WQ.xG ?_ | refine WQ.pure ?_) | ((with_reducible refine WQ.gid ?_); first | refine WQ.on rfl ?_ | refine WQ.offN rfl rfl ?_ | refine WQ.offU rfl ?_)
   | ((with_reducible refine WO.cid ?_); first | refine WO.x ?_ | ((first | refine op_alloc hg ?_ | refine op_boxA hg ?_ | refine op_box1 hg ?_); clear hg; intro b w hg; refine WO.fr ?_) | ((first | refine op_st hg ?_ | refine op_stA hg ?_ | refine op_pure hg ?_); clear hg; intro w hg; refine WO.fr ?_) | (refine op_pureB hg ?_; clear hg; intro w hg c hc; cases c <;> refine WO.fr ?_))
   | ((with_reducible refine WO.gid ?_); first | refine WO.on rfl ?_ | refine WO.offN rfl rfl ?_ | refine WO.offU rfl ?_))
  obtain ⟨bq, rfl⟩ : ∃ z, z = b := ⟨b, rfl⟩
  refine op_call (hli _ (hL.goes hg)) ?_
  rintro _ w2 ⟨⟨r, rfl⟩, hg2⟩
  replace hg := hg.call00 hg2
  clear hg2 hli
  refine ⟨_, rfl, ?_⟩
  refine WO.fr ?_
  cases r
  · repeat' (first
     | (with_reducible first | refine QX.next ?_ | refine WC.seq ?_ | refine WC.region ?_ | refine WC.block ?_ | refine QX.bnorm ?_ | refine QX.bret ?_ | refine QX.ret ?_ | refine QX.exit ?_ | refine QX.bsame ?_ | refine QX.bother rfl ?_ | refine WO.nil ?_ | refine WC.skip ?_ | refine WC.ret ?_ | refine WC.exit ?_)
     | ((with_reducible refine WC.id ?_); first | refine WC.condT rfl ?_ | refine WC.condF rfl ?_)
     | (refine WC.quietG hg ?_; clear hg) | ((with_reducible refine WQ.nilG ?_); intro w hg) | ((with_reducible refine WQ.cid ?_); first | refine WQ.xG ?_ | refine WQ.pure ?_) | ((with_reducible refine WQ.gid ?_); first | refine WQ.on rfl ?_ | refine WQ.offN rfl rfl ?_ | refine WQ.offU rfl ?_)
     | ((with_reducible refine WO.cid ?_); first | refine WO.x ?_ | ((first | refine op_alloc hg ?_ | refine op_boxA hg ?_ | refine op_box1 hg ?_); clear hg; intro b w hg; refine WO.fr ?_) | ((first | refine op_st hg ?_ | refine op_stA hg ?_ | refine op_pure hg ?_); clear hg; intro w hg; refine WO.fr ?_) | (refine op_pureB hg ?_; clear hg; intro w hg c hc; cases c <;> refine WO.fr ?_))
     | ((with_reducible refine WO.gid ?_); first | refine WO.on rfl ?_ | refine WO.offN rfl rfl ?_ | refine WO.offU rfl ?_))
    exact ret1 rfl ⟨rfl, hg.drop⟩
  repeat' (first
   | (with_reducible first | refine QX.next ?_ | refine WC.seq ?_ | refine WC.region ?_ | refine WC.block ?_ | refine QX.bnorm ?_ | refine QX.bret ?_ | refine QX.ret ?_ | refine QX.exit ?_ | refine QX.bsame ?_ | refine QX.bother rfl ?_ | refine WO.nil ?_ | refine WC.skip ?_ | refine WC.ret ?_ | refine WC.exit ?_)
   | ((with_reducible refine WC.id ?_); first | refine WC.condT rfl ?_ | refine WC.condF rfl ?_)
   | (refine WC.quietG hg ?_; clear hg) | ((with_reducible refine WQ.nilG ?_); intro w hg) | ((with_reducible refine WQ.cid ?_); first | refine WQ.xG ?_ | refine WQ.pure ?_) | ((with_reducible refine WQ.gid ?_); first | refine WQ.on rfl ?_ | refine WQ.offN rfl rfl ?_ | refine WQ.offU rfl ?_)
   | ((with_reducible refine WO.cid ?_); first | refine WO.x ?_ | ((first | refine op_alloc hg ?_ | refine op_boxA hg ?_ | refine op_box1 hg ?_); clear hg; intro b w hg; refine WO.fr ?_) | ((first | refine op_st hg ?_ | refine op_stA hg ?_ | refine op_pure hg ?_); clear hg; intro w hg; refine WO.fr ?_) | (refine op_pureB hg ?_; clear hg; intro w hg c hc; cases c <;> refine WO.fr ?_))
   | ((with_reducible refine WO.gid ?_); first | refine WO.on rfl ?_ | refine WO.offN rfl rfl ?_ | refine WO.offU rfl ?_))
  refine op_call (oFar_spec _ _ ops (hO.goes hg)) ?_
  rintro _ w2 ⟨⟨r, rfl, hfar⟩, hg2⟩
  replace hg := hg.call00 hg2
  clear hg2
  refine ⟨_, rfl, ?_⟩
  refine WO.fr ?_
  cases r
  rotate_left
  · repeat' (first
     | (with_reducible first | refine QX.next ?_ | refine WC.seq ?_ | refine WC.region ?_ | refine WC.block ?_ | refine QX.bnorm ?_ | refine QX.bret ?_ | refine QX.ret ?_ | refine QX.exit ?_ | refine QX.bsame ?_ | refine QX.bother rfl ?_ | refine WO.nil ?_ | refine WC.skip ?_ | refine WC.ret ?_ | refine WC.exit ?_)
     | ((with_reducible refine WC.id ?_); first | refine WC.condT rfl ?_ | refine WC.condF rfl ?_)
     | (refine WC.quietG hg ?_; clear hg) | ((with_reducible refine WQ.nilG ?_); intro w hg) | ((with_reducible refine WQ.cid ?_); first | refine WQ.xG ?_ | refine WQ.pure ?_) | ((with_reducible refine WQ.gid ?_); first | refine WQ.on rfl ?_ | refine WQ.offN rfl rfl ?_ | refine WQ.offU rfl ?_)
     | ((with_reducible refine WO.cid ?_); first | refine WO.x ?_ | ((first | refine op_alloc hg ?_ | refine op_boxA hg ?_ | refine op_box1 hg ?_); clear hg; intro b w hg; refine WO.fr ?_) | ((first | refine op_st hg ?_ | refine op_stA hg ?_ | refine op_pure hg ?_); clear hg; intro w hg; refine WO.fr ?_) | (refine op_pureB hg ?_; clear hg; intro w hg c hc; cases c <;> refine WO.fr ?_))
     | ((with_reducible refine WO.gid ?_); first | refine WO.on rfl ?_ | refine WO.offN rfl rfl ?_ | refine WO.offU rfl ?_))
    exact ret1 rfl ⟨rfl, hg.drop⟩
  replace hfar := hfar rfl
  by_cases h200 : 200 < hid.length
  · repeat' (first
     | (with_reducible first | refine QX.next ?_ | refine WC.seq ?_ | refine WC.region ?_ | refine WC.block ?_ | refine QX.bnorm ?_ | refine QX.bret ?_ | refine QX.ret ?_ | refine QX.exit ?_ | refine QX.bsame ?_ | refine QX.bother rfl ?_ | refine WO.nil ?_ | refine WC.skip ?_ | refine WC.ret ?_ | refine WC.exit ?_)
     | ((with_reducible refine WC.id ?_); first | refine WC.condT rfl ?_ | refine WC.condF rfl ?_)
     | (refine WC.quietG hg ?_; clear hg) | ((with_reducible refine WQ.nilG ?_); intro w hg) | ((with_reducible refine WQ.cid ?_); first | refine WQ.xG ?_ | refine WQ.pure ?_) | ((with_reducible refine WQ.gid ?_); first | refine WQ.on rfl ?_ | refine WQ.offN rfl rfl ?_ | refine WQ.offU rfl ?_)
     | ((with_reducible refine WO.cid ?_); first | refine WO.x ?_ | ((first | refine op_alloc hg ?_ | refine op_boxA hg ?_ | refine op_box1 hg ?_); clear hg; intro b w hg; refine WO.fr ?_) | ((first | refine op_st hg ?_ | refine op_stA hg ?_ | refine op_pure hg ?_); clear hg; intro w hg; refine WO.fr ?_) | (refine op_pureB hg ?_; clear hg; intro w hg c hc; cases c <;> refine WO.fr ?_))
     | ((with_reducible refine WO.gid ?_); first | refine WO.on rfl ?_ | refine WO.offN rfl rfl ?_ | refine WO.offU rfl ?_))
    exact ret1 rfl ⟨rfl, hg.drop⟩
  repeat' (first
   | (with_reducible first | refine QX.next ?_ | refine WC.seq ?_ | refine WC.region ?_ | refine WC.block ?_ | refine QX.bnorm ?_ | refine QX.bret ?_ | refine QX.ret ?_ | refine QX.exit ?_ | refine QX.bsame ?_ | refine QX.bother rfl ?_ | refine WO.nil ?_ | refine WC.skip ?_ | refine WC.ret ?_ | refine WC.exit ?_)
   | ((with_reducible refine WC.id ?_); first | refine WC.condT rfl ?_ | refine WC.condF rfl ?_)
   | (refine WC.quietG hg ?_; clear hg) | ((with_reducible refine WQ.nilG ?_); intro w hg) | ((with_reducible refine WQ.cid ?_); first | refine WQ.xG ?_ | refine WQ.pure ?_) | ((with_reducible refine WQ.gid ?_); first | refine WQ.on rfl ?_ | refine WQ.offN rfl rfl ?_ | refine WQ.offU rfl ?_)
   | ((with_reducible refine WO.cid ?_); first | refine WO.x ?_ | ((first | refine op_alloc hg ?_ | refine op_boxA hg ?_ | refine op_box1 hg ?_); clear hg; intro b w hg; refine WO.fr ?_) | ((first | refine op_st hg ?_ | refine op_stA hg ?_ | refine op_pure hg ?_); clear hg; intro w hg; refine WO.fr ?_) | (refine op_pureB hg ?_; clear hg; intro w hg c hc; cases c <;> refine WO.fr ?_))
   | ((with_reducible refine WO.gid ?_); first | refine WO.on rfl ?_ | refine WO.offN rfl rfl ?_ | refine WO.offU rfl ?_))
  refine op_call (hri _ (hL.goes hg)) ?_
  rintro _ w2 ⟨⟨n, rfl, hn⟩, hg2⟩
  replace hg := hg.call00 hg2
  clear hg2 hri
  refine ⟨_, rfl, ?_⟩
  refine WO.fr ?_
  by_cases hn0 : n = 0
  rotate_left
  · repeat' (first
     | (with_reducible first | refine QX.next ?_ | refine WC.seq ?_ | refine WC.region ?_ | refine WC.block ?_ | refine QX.bnorm ?_ | refine QX.bret ?_ | refine QX.ret ?_ | refine QX.exit ?_ | refine QX.bsame ?_ | refine QX.bother rfl ?_ | refine WO.nil ?_ | refine WC.skip ?_ | refine WC.ret ?_ | refine WC.exit ?_)
     | ((with_reducible refine WC.id ?_); first | refine WC.condT rfl ?_ | refine WC.condF rfl ?_)
     | (refine WC.quietG hg ?_; clear hg) | ((with_reducible refine WQ.nilG ?_); intro w hg) | ((with_reducible refine WQ.cid ?_); first | refine WQ.xG ?_ | refine WQ.pure ?_) | ((with_reducible refine WQ.gid ?_); first | refine WQ.on rfl ?_ | refine WQ.offN rfl rfl ?_ | refine WQ.offU rfl ?_)
     | ((with_reducible refine WO.cid ?_); first | refine WO.x ?_ | ((first | refine op_alloc hg ?_ | refine op_boxA hg ?_ | refine op_box1 hg ?_); clear hg; intro b w hg; refine WO.fr ?_) | ((first | refine op_st hg ?_ | refine op_stA hg ?_ | refine op_pure hg ?_); clear hg; intro w hg; refine WO.fr ?_) | (refine op_pureB hg ?_; clear hg; intro w hg c hc; cases c <;> refine WO.fr ?_))
     | ((with_reducible refine WO.gid ?_); first | refine WO.on rfl ?_ | refine WO.offN rfl rfl ?_ | refine WO.offU rfl ?_))
    exact ret1 rfl ⟨rfl, hg.drop⟩
  subst hn0
  obtain ⟨hok, hmd, hp⟩ := hn rfl
  clear hn
  have hr := right_iff.1 hp
  obtain ⟨B, hB⟩ : ∃ B : Nat, p.bytes = B := ⟨p.bytes.toNat, by omega⟩
  repeat' (first
   | (with_reducible first | refine QX.next ?_ | refine WC.seq ?_ | refine WC.region ?_ | refine WC.block ?_ | refine QX.bnorm ?_ | refine QX.bret ?_ | refine QX.ret ?_ | refine QX.exit ?_ | refine QX.bsame ?_ | refine QX.bother rfl ?_ | refine WO.nil ?_ | refine WC.skip ?_ | refine WC.ret ?_ | refine WC.exit ?_)
   | ((with_reducible refine WC.id ?_); first | refine WC.condT rfl ?_ | refine WC.condF rfl ?_)
   | (refine WC.quietG hg ?_; clear hg) | ((with_reducible refine WQ.nilG ?_); intro w hg) | ((with_reducible refine WQ.cid ?_); first | refine WQ.xG ?_ | refine WQ.pure ?_) | ((with_reducible refine WQ.gid ?_); first | refine WQ.on rfl ?_ | refine WQ.offN rfl rfl ?_ | refine WQ.offU rfl ?_)
   | ((with_reducible refine WO.cid ?_); first | refine WO.x ?_ | ((first | refine op_alloc hg ?_ | refine op_boxA hg ?_ | refine op_box1 hg ?_); clear hg; intro b w hg; refine WO.fr ?_) | ((first | refine op_st hg ?_ | refine op_stA hg ?_ | refine op_pure hg ?_); clear hg; intro w hg; refine WO.fr ?_) | (refine op_pureB hg ?_; clear hg; intro w hg c hc; cases c <;> refine WO.fr ?_))
   | ((with_reducible refine WO.gid ?_); first | refine WO.on rfl ?_ | refine WO.offN rfl rfl ?_ | refine WO.offU rfl ?_))
  have hnew := cNew_spec md hp hL hok hmd hg
  simp only [Prm.enc] at hnew
  refine op_call hnew ?_
  clear hg hnew
  rintro _ w ⟨pc, x, rfl, hC⟩
  refine ⟨_, rfl, ?_⟩
  refine WO.fr ?_
  obtain ⟨sl, fw, fm, fa, fB, hK0, hg⟩ := hC
  simp only [cuF] at hg
  repeat' (first
   | (with_reducible first | refine QX.next ?_ | refine WC.seq ?_ | refine WC.region ?_ | refine WC.block ?_ | refine QX.bnorm ?_ | refine QX.bret ?_ | refine QX.ret ?_ | refine QX.exit ?_ | refine QX.bsame ?_ | refine QX.bother rfl ?_ | refine WO.nil ?_ | refine WC.skip ?_ | refine WC.ret ?_ | refine WC.exit ?_)
   | ((with_reducible refine WC.id ?_); first | refine WC.condT rfl ?_ | refine WC.condF rfl ?_)
   | (refine WC.quietG hg ?_; clear hg) | ((with_reducible refine WQ.nilG ?_); intro w hg) | ((with_reducible refine WQ.cid ?_); first | refine WQ.xG ?_ | refine WQ.pure ?_) | ((with_reducible refine WQ.gid ?_); first | refine WQ.on rfl ?_ | refine WQ.offN rfl rfl ?_ | refine WQ.offU rfl ?_)
   | ((with_reducible refine WO.cid ?_); first | refine WO.x ?_ | ((first | refine op_alloc hg ?_ | refine op_boxA hg ?_ | refine op_box1 hg ?_); clear hg; intro b w hg; refine WO.fr ?_) | ((first | refine op_st hg ?_ | refine op_stA hg ?_ | refine op_pure hg ?_); clear hg; intro w hg; refine WO.fr ?_) | (refine op_pureB hg ?_; clear hg; intro w hg c hc; cases c <;> refine WO.fr ?_))
   | ((with_reducible refine WO.gid ?_); first | refine WO.on rfl ?_ | refine WO.offN rfl rfl ?_ | refine WO.offU rfl ?_))
  refine WC.loopS [6, 9, 11, 12, 13, 14, 15, 48, 49, 50, 51, 52, 53, 54, 55, 56, 57, 58, 59, 60, 61, 62, 63, 64, 65, 66, 67, 68, 69, 70, 71, 72, 73, 74, 75, 76, 77, 78, 79, 80, 81, 82, 83, 84, 85, 86, 87, 88, 89, 90, 91, 92, 93, 94, 95, 96, 97, 98, 99, 100, 101, 102, 103, 104, 105, 106, 107, 108, 109, 110, 111, 112, 113, 114, 115] (fun xs d w => ∃ (i : Nat) (kc : Int) (T : Nat) (x : CU) (s : WS), d = [] ∧ (gt xs 7) = .int .i64 i ∧ (gt xs 1) = .int .i64 kc ∧ i ≤ ops.length ∧ 0 ≤ kc ∧ kc ≤ i * 300000000 ∧ T ≤ 1 + 2 * i ∧ Cur W pc (.slice am L.modes.length cm) (.slice ad L.dfas.length cd) (.slice aa L.acts.length ca) L p T x s [[(bq, .cells [.slice am L.modes.length cm, .slice ad L.dfas.length cd, .slice aa L.acts.length ca, .int .i64 md, .int .i64 p.bytes, .int .i64 p.trail, .int .i64 p.marks, .int .i64 p.ahead, .int .i64 p.tickets, .int .i64 p.retries, .int .i64 p.step].toArray 30 (0, 0))]] w) (fun xs _ _ => ops.length - (intOf (gt xs 7)).toNat) ?_ ?_
  · exact ⟨0, 0, 1, x, WS.zero, rfl, rfl, rfl, Nat.zero_le _, by omega, by omega, by omega, sl, fw, fm, fa, fB, hK0, hg⟩
  clear hg hK0
  intro xs d w hlen hI K hK
  replace hlen := len_cons hlen
  obtain ⟨x6, xs, rfl, hlen⟩ := hlen
  replace hlen := len_cons hlen
  obtain ⟨x9, xs, rfl, hlen⟩ := hlen
  replace hlen := len_cons hlen
  obtain ⟨x11, xs, rfl, hlen⟩ := hlen
  replace hlen := len_cons hlen
  obtain ⟨x12, xs, rfl, hlen⟩ := hlen
  replace hlen := len_cons hlen
  obtain ⟨x13, xs, rfl, hlen⟩ := hlen
  replace hlen := len_cons hlen
  obtain ⟨x14, xs, rfl, hlen⟩ := hlen
  replace hlen := len_cons hlen
  obtain ⟨x15, xs, rfl, hlen⟩ := hlen
  replace hlen := len_cons hlen
  obtain ⟨x48, xs, rfl, hlen⟩ := hlen
  replace hlen := len_cons hlen
  obtain ⟨x49, xs, rfl, hlen⟩ := hlen
  replace hlen := len_cons hlen
  obtain ⟨x50, xs, rfl, hlen⟩ := hlen
  replace hlen := len_cons hlen
  obtain ⟨x51, xs, rfl, hlen⟩ := hlen
  replace hlen := len_cons hlen
  obtain ⟨x52, xs, rfl, hlen⟩ := hlen
  replace hlen := len_cons hlen
  obtain ⟨x53, xs, rfl, hlen⟩ := hlen
  replace hlen := len_cons hlen
  obtain ⟨x54, xs, rfl, hlen⟩ := hlen
  replace hlen := len_cons hlen
  obtain ⟨x55, xs, rfl, hlen⟩ := hlen
  replace hlen := len_cons hlen
  obtain ⟨x56, xs, rfl, hlen⟩ := hlen
  replace hlen := len_cons hlen
  obtain ⟨x57, xs, rfl, hlen⟩ := hlen
  replace hlen := len_cons hlen
  obtain ⟨x58, xs, rfl, hlen⟩ := hlen
  replace hlen := len_cons hlen
  obtain ⟨x59, xs, rfl, hlen⟩ := hlen
  replace hlen := len_cons hlen
  obtain ⟨x60, xs, rfl, hlen⟩ := hlen
  replace hlen := len_cons hlen
  obtain ⟨x61, xs, rfl, hlen⟩ := hlen
  replace hlen := len_cons hlen
  obtain ⟨x62, xs, rfl, hlen⟩ := hlen
  replace hlen := len_cons hlen
  obtain ⟨x63, xs, rfl, hlen⟩ := hlen
  replace hlen := len_cons hlen
  obtain ⟨x64, xs, rfl, hlen⟩ := hlen
  replace hlen := len_cons hlen
  obtain ⟨x65, xs, rfl, hlen⟩ := hlen
  replace hlen := len_cons hlen
  obtain ⟨x66, xs, rfl, hlen⟩ := hlen
  replace hlen := len_cons hlen
  obtain ⟨x67, xs, rfl, hlen⟩ := hlen
  replace hlen := len_cons hlen
  obtain ⟨x68, xs, rfl, hlen⟩ := hlen
  replace hlen := len_cons hlen
  obtain ⟨x69, xs, rfl, hlen⟩ := hlen
  replace hlen := len_cons hlen
  obtain ⟨x70, xs, rfl, hlen⟩ := hlen
  replace hlen := len_cons hlen
  obtain ⟨x71, xs, rfl, hlen⟩ := hlen
  replace hlen := len_cons hlen
  obtain ⟨x72, xs, rfl, hlen⟩ := hlen
  replace hlen := len_cons hlen
  obtain ⟨x73, xs, rfl, hlen⟩ := hlen
  replace hlen := len_cons hlen
  obtain ⟨x74, xs, rfl, hlen⟩ := hlen
  replace hlen := len_cons hlen
  obtain ⟨x75, xs, rfl, hlen⟩ := hlen
  replace hlen := len_cons hlen
  obtain ⟨x76, xs, rfl, hlen⟩ := hlen
  replace hlen := len_cons hlen
  obtain ⟨x77, xs, rfl, hlen⟩ := hlen
  replace hlen := len_cons hlen
  obtain ⟨x78, xs, rfl, hlen⟩ := hlen
  replace hlen := len_cons hlen
  obtain ⟨x79, xs, rfl, hlen⟩ := hlen
  replace hlen := len_cons hlen
  obtain ⟨x80, xs, rfl, hlen⟩ := hlen
  replace hlen := len_cons hlen
  obtain ⟨x81, xs, rfl, hlen⟩ := hlen
  replace hlen := len_cons hlen
  obtain ⟨x82, xs, rfl, hlen⟩ := hlen
  replace hlen := len_cons hlen
  obtain ⟨x83, xs, rfl, hlen⟩ := hlen
  replace hlen := len_cons hlen
  obtain ⟨x84, xs, rfl, hlen⟩ := hlen
  replace hlen := len_cons hlen
  obtain ⟨x85, xs, rfl, hlen⟩ := hlen
  replace hlen := len_cons hlen
  obtain ⟨x86, xs, rfl, hlen⟩ := hlen
  replace hlen := len_cons hlen
  obtain ⟨x87, xs, rfl, hlen⟩ := hlen
  replace hlen := len_cons hlen
  obtain ⟨x88, xs, rfl, hlen⟩ := hlen
  replace hlen := len_cons hlen
  obtain ⟨x89, xs, rfl, hlen⟩ := hlen
  replace hlen := len_cons hlen
  obtain ⟨x90, xs, rfl, hlen⟩ := hlen
  replace hlen := len_cons hlen
  obtain ⟨x91, xs, rfl, hlen⟩ := hlen
  replace hlen := len_cons hlen
  obtain ⟨x92, xs, rfl, hlen⟩ := hlen
  replace hlen := len_cons hlen
  obtain ⟨x93, xs, rfl, hlen⟩ := hlen
  replace hlen := len_cons hlen
  obtain ⟨x94, xs, rfl, hlen⟩ := hlen
  replace hlen := len_cons hlen
  obtain ⟨x95, xs, rfl, hlen⟩ := hlen
  replace hlen := len_cons hlen
  obtain ⟨x96, xs, rfl, hlen⟩ := hlen
  replace hlen := len_cons hlen
  obtain ⟨x97, xs, rfl, hlen⟩ := hlen
  replace hlen := len_cons hlen
  obtain ⟨x98, xs, rfl, hlen⟩ := hlen
  replace hlen := len_cons hlen
  obtain ⟨x99, xs, rfl, hlen⟩ := hlen
  replace hlen := len_cons hlen
  obtain ⟨x100, xs, rfl, hlen⟩ := hlen
  replace hlen := len_cons hlen
  obtain ⟨x101, xs, rfl, hlen⟩ := hlen
  replace hlen := len_cons hlen
  obtain ⟨x102, xs, rfl, hlen⟩ := hlen
  replace hlen := len_cons hlen
  obtain ⟨x103, xs, rfl, hlen⟩ := hlen
  replace hlen := len_cons hlen
  obtain ⟨x104, xs, rfl, hlen⟩ := hlen
  replace hlen := len_cons hlen
  obtain ⟨x105, xs, rfl, hlen⟩ := hlen
  replace hlen := len_cons hlen
  obtain ⟨x106, xs, rfl, hlen⟩ := hlen
  replace hlen := len_cons hlen
  obtain ⟨x107, xs, rfl, hlen⟩ := hlen
  replace hlen := len_cons hlen
  obtain ⟨x108, xs, rfl, hlen⟩ := hlen
  replace hlen := len_cons hlen
  obtain ⟨x109, xs, rfl, hlen⟩ := hlen
  replace hlen := len_cons hlen
  obtain ⟨x110, xs, rfl, hlen⟩ := hlen
  replace hlen := len_cons hlen
  obtain ⟨x111, xs, rfl, hlen⟩ := hlen
  replace hlen := len_cons hlen
  obtain ⟨x112, xs, rfl, hlen⟩ := hlen
  replace hlen := len_cons hlen
  obtain ⟨x113, xs, rfl, hlen⟩ := hlen
  replace hlen := len_cons hlen
  obtain ⟨x114, xs, rfl, hlen⟩ := hlen
  replace hlen := len_cons hlen
  obtain ⟨x115, xs, rfl, hlen⟩ := hlen
  replace hlen := len_nil hlen
  subst hlen
  refine WC.frame (by simp only [setAll, List.set_cons_succ, List.set_cons_zero]; exact rfl) ?_
  try simp only [gt] at hI
  clear x
  obtain ⟨i, kc, T, x, s, rfl, rfl, rfl, hi, hk0, hk1, hT, sl, fw, fm, fa, fB, hK0, hg⟩ := hI
  simp only [cuF] at hg
  by_cases hlt : i < ops.length
  rotate_left
  · repeat' (first
     | (with_reducible first | refine QX.next ?_ | refine WC.seq ?_ | refine WC.region ?_ | refine WC.block ?_ | refine QX.bnorm ?_ | refine QX.bret ?_ | refine QX.ret ?_ | refine QX.exit ?_ | refine QX.bsame ?_ | refine QX.bother rfl ?_ | refine WO.nil ?_ | refine WC.skip ?_ | refine WC.ret ?_ | refine WC.exit ?_)
     | ((with_reducible refine WC.id ?_); first | refine WC.condT rfl ?_ | refine WC.condF rfl ?_)
     | (refine WC.quietG hg ?_; clear hg) | ((with_reducible refine WQ.nilG ?_); intro w hg) | ((with_reducible refine WQ.cid ?_); first | refine WQ.xG ?_ | refine WQ.pure ?_) | ((with_reducible refine WQ.gid ?_); first | refine WQ.on rfl ?_ | refine WQ.offN rfl rfl ?_ | refine WQ.offU rfl ?_)
     | ((with_reducible refine WO.cid ?_); first | refine WO.x ?_ | ((first | refine op_alloc hg ?_ | refine op_boxA hg ?_ | refine op_box1 hg ?_); clear hg; intro b w hg; refine WO.fr ?_) | ((first | refine op_st hg ?_ | refine op_stA hg ?_ | refine op_pure hg ?_); clear hg; intro w hg; refine WO.fr ?_) | (refine op_pureB hg ?_; clear hg; intro w hg c hc; cases c <;> refine WO.fr ?_))
     | ((with_reducible refine WO.gid ?_); first | refine WO.on rfl ?_ | refine WO.offN rfl rfl ?_ | refine WO.offU rfl ?_))
    exact ret1 rfl ⟨rfl, hg.drop⟩
  obtain ⟨bo0, ko, cap', e, hc⟩ := hO.get (i := i) hlt
  simp only [Value.slice.injEq] at e
  obtain ⟨rfl, _, rfl⟩ := e
  have hod := hfar.2 i hlt
  have hol := hfar.1
  generalize ops.getD i ⟨0, 0, []⟩ = o at hc hod
  have r1 : ∀ {w Fs}, Goes W [] Fs w → Cells w ⟨bo0, ko + i * 3, none⟩ [.int .i64 o.k, .int .i64 o.n, .string (str o.dat)] := fun g => g.cells0 hc
  clear hc
  repeat' (first
   | (with_reducible first | refine QX.next ?_ | refine WC.seq ?_ | refine WC.region ?_ | refine WC.block ?_ | refine QX.bnorm ?_ | refine QX.bret ?_ | refine QX.ret ?_ | refine QX.exit ?_ | refine QX.bsame ?_ | refine QX.bother rfl ?_ | refine WO.nil ?_ | refine WC.skip ?_ | refine WC.ret ?_ | refine WC.exit ?_)
   | ((with_reducible refine WC.id ?_); first | refine WC.condT rfl ?_ | refine WC.condF rfl ?_)
   | (refine WC.quietG hg ?_; clear hg) | ((with_reducible refine WQ.nilG ?_); intro w hg) | ((with_reducible refine WQ.cid ?_); first | refine WQ.xG ?_ | refine WQ.pure ?_) | ((with_reducible refine WQ.gid ?_); first | refine WQ.on rfl ?_ | refine WQ.offN rfl rfl ?_ | refine WQ.offU rfl ?_)
   | ((with_reducible refine WO.cid ?_); first | refine WO.x ?_ | ((first | refine op_alloc hg ?_ | refine op_boxA hg ?_ | refine op_box1 hg ?_); clear hg; intro b w hg; refine WO.fr ?_) | ((first | refine op_st hg ?_ | refine op_stA hg ?_ | refine op_pure hg ?_); clear hg; intro w hg; refine WO.fr ?_) | (refine op_pureB hg ?_; clear hg; intro w hg c hc; cases c <;> refine WO.fr ?_))
   | ((with_reducible refine WO.gid ?_); first | refine WO.on rfl ?_ | refine WO.offN rfl rfl ?_ | refine WO.offU rfl ?_))
  obtain ⟨bo, rfl⟩ : ∃ z, z = b := ⟨b, rfl⟩
  refine op_call (begin_spec _ _ o.k o.n o.dat) ?_
  rintro _ w ⟨pj, rfl, hg2⟩
  replace hg := hg.call0 hg2
  clear hg2 r1
  simp only [jF, List.cons_append, List.nil_append] at hg
  refine ⟨_, rfl, ?_⟩
  refine WO.fr ?_
  have p2 : ∀ {w Fs}, Goes W [] Fs w → Calls Tryz.prog 10 #[.agg p.enc.toArray, .int .i64 o.k] w _ := fun _ => rSteps_spec _ o.k hp
  have p3 : ∀ {w Fs}, Goes W [] Fs w → Calls Tryz.prog 11 #[.agg p.enc.toArray, .agg #[.int .i64 o.k, .int .i64 o.n, .string (str o.dat)]] w _ := fun _ => bSteps_spec _ o.k o.n _ hp
  have hmb := steps_le hp o.k
  have hp0 := pot0 (s := s) hp hB hK0.k o.k o.n o.dat
  have hj0 := job0_ok p o.k o.n o.dat
  generalize stepsV p o.k = most at p2 p3 hmb hp0
  simp only [Prm.enc] at p2 p3
  repeat' (first
   | (with_reducible first | refine QX.next ?_ | refine WC.seq ?_ | refine WC.region ?_ | refine WC.block ?_ | refine QX.bnorm ?_ | refine QX.bret ?_ | refine QX.ret ?_ | refine QX.exit ?_ | refine QX.bsame ?_ | refine QX.bother rfl ?_ | refine WO.nil ?_ | refine WC.skip ?_ | refine WC.ret ?_ | refine WC.exit ?_)
   | ((with_reducible refine WC.id ?_); first | refine WC.condT rfl ?_ | refine WC.condF rfl ?_)
   | (refine WC.quietG hg ?_; clear hg) | ((with_reducible refine WQ.nilG ?_); intro w hg) | ((with_reducible refine WQ.cid ?_); first | refine WQ.xG ?_ | refine WQ.pure ?_) | ((with_reducible refine WQ.gid ?_); first | refine WQ.on rfl ?_ | refine WQ.offN rfl rfl ?_ | refine WQ.offU rfl ?_)
   | ((with_reducible refine WO.cid ?_); first | refine WO.x ?_ | ((first | refine op_alloc hg ?_ | refine op_boxA hg ?_ | refine op_box1 hg ?_); clear hg; intro b w hg; refine WO.fr ?_) | ((first | refine op_st hg ?_ | refine op_stA hg ?_ | refine op_pure hg ?_); clear hg; intro w hg; refine WO.fr ?_) | (refine op_pureB hg ?_; clear hg; intro w hg c hc; cases c <;> refine WO.fr ?_))
   | ((with_reducible refine WO.gid ?_); first | refine WO.on rfl ?_ | refine WO.offN rfl rfl ?_ | refine WO.offU rfl ?_))
  clear p2 p3
  refine WC.loopS [6, 9, 14, 15, 66, 67, 68, 69, 70, 71, 72, 73, 74, 75, 76, 77, 78, 79, 80, 81, 82, 83, 84, 85, 86, 87, 88, 89, 90, 91, 92, 93, 94, 95, 96, 97, 98, 99, 100, 101, 102, 103, 104, 105, 106, 107, 108, 109, 110, 111, 112, 113, 114] (fun xs d w => ∃ (n : Nat) (k2 : Int) (T2 : Nat) (x : CU) (s : WS) (j : JB) (fj : Frag) (σ : Option SC) (done : Bool), d = [] ∧ (gt xs 3) = .int .i64 n ∧ (gt xs 2) = .bool done ∧ (gt xs 1) = .int .i64 k2 ∧ k2 = kc + n ∧ (j.kind = o.k ∧ j.fn = stepF o.k ∧ j.data = o.dat ∧ j.steps = n ∧ j.done = done) ∧ SlotOK (.slice am L.modes.length cm) (.slice ad L.dfas.length cd) (.slice aa L.acts.length ca) L j.ps fj σ ∧ T2 ≤ T + 2 ∧ (n : Int) ≤ most ∧ (done = false → T2 = T ∧ (n : Int) + pot p B s j σ + 1 ≤ most ∧ nearO B s.all.length σ ∧ JOK p j) ∧ Cur W pc (.slice am L.modes.length cm) (.slice ad L.dfas.length cd) (.slice aa L.acts.length ca) L p T2 x s (jF pj j :: fj :: [[(bo, .cells [.int .i64 o.k, .int .i64 o.n, .string (str o.dat)].toArray 41 (0, 0))], [(bq, .cells [.slice am L.modes.length cm, .slice ad L.dfas.length cd, .slice aa L.acts.length ca, .int .i64 md, .int .i64 p.bytes, .int .i64 p.trail, .int .i64 p.marks, .int .i64 p.ahead, .int .i64 p.tickets, .int .i64 p.retries, .int .i64 p.step].toArray 30 (0, 0))]]) w) (fun xs _ _ => (most - intOf (gt xs 3)).toNat) ?_ ?_
  · exact ⟨0, kc, T, x, s, job0 o.k o.n o.dat, [], none, false, rfl, rfl, rfl, rfl, by omega, ⟨rfl, rfl, rfl, rfl, rfl⟩, .nil, by omega, by omega, fun _ => ⟨rfl, by omega, trivial, hj0⟩, sl, fw, fm, fa, fB, hK0, Goes.lawA hg⟩
  clear hg hK0 hj0 hp0
  have hK1 := hK
  clear hK x s
  intro xs d w hlen hI K hK
  replace hlen := len_cons hlen
  obtain ⟨x6, xs, rfl, hlen⟩ := hlen
  replace hlen := len_cons hlen
  obtain ⟨x9, xs, rfl, hlen⟩ := hlen
  replace hlen := len_cons hlen
  obtain ⟨x14, xs, rfl, hlen⟩ := hlen
  replace hlen := len_cons hlen
  obtain ⟨x15, xs, rfl, hlen⟩ := hlen
  replace hlen := len_cons hlen
  obtain ⟨x66, xs, rfl, hlen⟩ := hlen
  replace hlen := len_cons hlen
  obtain ⟨x67, xs, rfl, hlen⟩ := hlen
  replace hlen := len_cons hlen
  obtain ⟨x68, xs, rfl, hlen⟩ := hlen
  replace hlen := len_cons hlen
  obtain ⟨x69, xs, rfl, hlen⟩ := hlen
  replace hlen := len_cons hlen
  obtain ⟨x70, xs, rfl, hlen⟩ := hlen
  replace hlen := len_cons hlen
  obtain ⟨x71, xs, rfl, hlen⟩ := hlen
  replace hlen := len_cons hlen
  obtain ⟨x72, xs, rfl, hlen⟩ := hlen
  replace hlen := len_cons hlen
  obtain ⟨x73, xs, rfl, hlen⟩ := hlen
  replace hlen := len_cons hlen
  obtain ⟨x74, xs, rfl, hlen⟩ := hlen
  replace hlen := len_cons hlen
  obtain ⟨x75, xs, rfl, hlen⟩ := hlen
  replace hlen := len_cons hlen
  obtain ⟨x76, xs, rfl, hlen⟩ := hlen
  replace hlen := len_cons hlen
  obtain ⟨x77, xs, rfl, hlen⟩ := hlen
  replace hlen := len_cons hlen
  obtain ⟨x78, xs, rfl, hlen⟩ := hlen
  replace hlen := len_cons hlen
  obtain ⟨x79, xs, rfl, hlen⟩ := hlen
  replace hlen := len_cons hlen
  obtain ⟨x80, xs, rfl, hlen⟩ := hlen
  replace hlen := len_cons hlen
  obtain ⟨x81, xs, rfl, hlen⟩ := hlen
  replace hlen := len_cons hlen
  obtain ⟨x82, xs, rfl, hlen⟩ := hlen
  replace hlen := len_cons hlen
  obtain ⟨x83, xs, rfl, hlen⟩ := hlen
  replace hlen := len_cons hlen
  obtain ⟨x84, xs, rfl, hlen⟩ := hlen
  replace hlen := len_cons hlen
  obtain ⟨x85, xs, rfl, hlen⟩ := hlen
  replace hlen := len_cons hlen
  obtain ⟨x86, xs, rfl, hlen⟩ := hlen
  replace hlen := len_cons hlen
  obtain ⟨x87, xs, rfl, hlen⟩ := hlen
  replace hlen := len_cons hlen
  obtain ⟨x88, xs, rfl, hlen⟩ := hlen
  replace hlen := len_cons hlen
  obtain ⟨x89, xs, rfl, hlen⟩ := hlen
  replace hlen := len_cons hlen
  obtain ⟨x90, xs, rfl, hlen⟩ := hlen
  replace hlen := len_cons hlen
  obtain ⟨x91, xs, rfl, hlen⟩ := hlen
  replace hlen := len_cons hlen
  obtain ⟨x92, xs, rfl, hlen⟩ := hlen
  replace hlen := len_cons hlen
  obtain ⟨x93, xs, rfl, hlen⟩ := hlen
  replace hlen := len_cons hlen
  obtain ⟨x94, xs, rfl, hlen⟩ := hlen
  replace hlen := len_cons hlen
  obtain ⟨x95, xs, rfl, hlen⟩ := hlen
  replace hlen := len_cons hlen
  obtain ⟨x96, xs, rfl, hlen⟩ := hlen
  replace hlen := len_cons hlen
  obtain ⟨x97, xs, rfl, hlen⟩ := hlen
  replace hlen := len_cons hlen
  obtain ⟨x98, xs, rfl, hlen⟩ := hlen
  replace hlen := len_cons hlen
  obtain ⟨x99, xs, rfl, hlen⟩ := hlen
  replace hlen := len_cons hlen
  obtain ⟨x100, xs, rfl, hlen⟩ := hlen
  replace hlen := len_cons hlen
  obtain ⟨x101, xs, rfl, hlen⟩ := hlen
  replace hlen := len_cons hlen
  obtain ⟨x102, xs, rfl, hlen⟩ := hlen
  replace hlen := len_cons hlen
  obtain ⟨x103, xs, rfl, hlen⟩ := hlen
  replace hlen := len_cons hlen
  obtain ⟨x104, xs, rfl, hlen⟩ := hlen
  replace hlen := len_cons hlen
  obtain ⟨x105, xs, rfl, hlen⟩ := hlen
  replace hlen := len_cons hlen
  obtain ⟨x106, xs, rfl, hlen⟩ := hlen
  replace hlen := len_cons hlen
  obtain ⟨x107, xs, rfl, hlen⟩ := hlen
  replace hlen := len_cons hlen
  obtain ⟨x108, xs, rfl, hlen⟩ := hlen
  replace hlen := len_cons hlen
  obtain ⟨x109, xs, rfl, hlen⟩ := hlen
  replace hlen := len_cons hlen
  obtain ⟨x110, xs, rfl, hlen⟩ := hlen
  replace hlen := len_cons hlen
  obtain ⟨x111, xs, rfl, hlen⟩ := hlen
  replace hlen := len_cons hlen
  obtain ⟨x112, xs, rfl, hlen⟩ := hlen
  replace hlen := len_cons hlen
  obtain ⟨x113, xs, rfl, hlen⟩ := hlen
  replace hlen := len_cons hlen
  obtain ⟨x114, xs, rfl, hlen⟩ := hlen
  replace hlen := len_nil hlen
  subst hlen
  refine WC.frame (by simp only [setAll, List.set_cons_succ, List.set_cons_zero]; exact rfl) ?_
  try simp only [gt] at hI
  obtain ⟨n, k2, T2, x, s, j, fj, σ, done, rfl, rfl, rfl, rfl, hk2, ⟨hj1, hj2, hj3, hj4, hj5⟩, hSl, hT2, hnm, hnd, sl, fw, fm, fa, fB, hK0, hg⟩ := hI
  simp only [cuF, jF] at hg
  obtain ⟨kn, rfl⟩ : ∃ kn : Nat, k2 = kn := ⟨k2.toNat, by omega⟩
  cases done
  rotate_left
  · repeat' (first
     | (with_reducible first | refine QX.next ?_ | refine WC.seq ?_ | refine WC.region ?_ | refine WC.block ?_ | refine QX.bnorm ?_ | refine QX.bret ?_ | refine QX.ret ?_ | refine QX.exit ?_ | refine QX.bsame ?_ | refine QX.bother rfl ?_ | refine WO.nil ?_ | refine WC.skip ?_ | refine WC.ret ?_ | refine WC.exit ?_)
     | ((with_reducible refine WC.id ?_); first | refine WC.condT rfl ?_ | refine WC.condF rfl ?_)
     | (refine WC.quietG hg ?_; clear hg) | ((with_reducible refine WQ.nilG ?_); intro w hg) | ((with_reducible refine WQ.cid ?_); first | refine WQ.xG ?_ | refine WQ.pure ?_) | ((with_reducible refine WQ.gid ?_); first | refine WQ.on rfl ?_ | refine WQ.offN rfl rfl ?_ | refine WQ.offU rfl ?_)
     | ((with_reducible refine WO.cid ?_); first | refine WO.x ?_ | ((first | refine op_alloc hg ?_ | refine op_boxA hg ?_ | refine op_box1 hg ?_); clear hg; intro b w hg; refine WO.fr ?_) | ((first | refine op_st hg ?_ | refine op_stA hg ?_ | refine op_pure hg ?_); clear hg; intro w hg; refine WO.fr ?_) | (refine op_pureB hg ?_; clear hg; intro w hg c hc; cases c <;> refine WO.fr ?_))
     | ((with_reducible refine WO.gid ?_); first | refine WO.on rfl ?_ | refine WO.offN rfl rfl ?_ | refine WO.offU rfl ?_))
    clear hK
    have hK := hK1
    with_reducible refine QX.norm ?_
    refine hK _ _ _ ?_ ?_ ?_
    · simp only [setAll, List.map_cons, List.map_nil, gt, List.set_cons_succ, List.set_cons_zero]
    all_goals try simp only [List.map_cons, List.map_nil, gt, intOf]
    · exact ⟨i + 1, kn, T2, x, s, trivial, rfl, rfl, by omega, by omega, by omega, by omega, sl, fw, fm, fa, fB, hK0, Goes.lawB hg⟩
    · omega
  clear hK1
  obtain ⟨hT3, hpt, hnr, hJ⟩ := hnd rfl
  subst hT3
  clear hnd
  repeat' (first
   | (with_reducible first | refine QX.next ?_ | refine WC.seq ?_ | refine WC.region ?_ | refine WC.block ?_ | refine QX.bnorm ?_ | refine QX.bret ?_ | refine QX.ret ?_ | refine QX.exit ?_ | refine QX.bsame ?_ | refine QX.bother rfl ?_ | refine WO.nil ?_ | refine WC.skip ?_ | refine WC.ret ?_ | refine WC.exit ?_)
   | ((with_reducible refine WC.id ?_); first | refine WC.condT rfl ?_ | refine WC.condF rfl ?_)
   | (refine WC.quietG hg ?_; clear hg) | ((with_reducible refine WQ.nilG ?_); intro w hg) | ((with_reducible refine WQ.cid ?_); first | refine WQ.xG ?_ | refine WQ.pure ?_) | ((with_reducible refine WQ.gid ?_); first | refine WQ.on rfl ?_ | refine WQ.offN rfl rfl ?_ | refine WQ.offU rfl ?_)
   | ((with_reducible refine WO.cid ?_); first | refine WO.x ?_ | ((first | refine op_alloc hg ?_ | refine op_boxA hg ?_ | refine op_box1 hg ?_); clear hg; intro b w hg; refine WO.fr ?_) | ((first | refine op_st hg ?_ | refine op_stA hg ?_ | refine op_pure hg ?_); clear hg; intro w hg; refine WO.fr ?_) | (refine op_pureB hg ?_; clear hg; intro w hg c hc; cases c <;> refine WO.fr ?_))
   | ((with_reducible refine WO.gid ?_); first | refine WO.on rfl ?_ | refine WO.offN rfl rfl ?_ | refine WO.offU rfl ?_))
  refine op_call (steps_at (j := j) hj4 hg) ?_
  rintro _ w2 ⟨rfl, hg2⟩
  replace hg := hg.call00 hg2
  clear hg2
  refine ⟨_, rfl, ?_⟩
  refine WO.fr ?_
  repeat' (first
   | (with_reducible first | refine QX.next ?_ | refine WC.seq ?_ | refine WC.region ?_ | refine WC.block ?_ | refine QX.bnorm ?_ | refine QX.bret ?_ | refine QX.ret ?_ | refine QX.exit ?_ | refine QX.bsame ?_ | refine QX.bother rfl ?_ | refine WO.nil ?_ | refine WC.skip ?_ | refine WC.ret ?_ | refine WC.exit ?_)
   | ((with_reducible refine WC.id ?_); first | refine WC.condT rfl ?_ | refine WC.condF rfl ?_)
   | (refine WC.quietG hg ?_; clear hg) | ((with_reducible refine WQ.nilG ?_); intro w hg) | ((with_reducible refine WQ.cid ?_); first | refine WQ.xG ?_ | refine WQ.pure ?_) | ((with_reducible refine WQ.gid ?_); first | refine WQ.on rfl ?_ | refine WQ.offN rfl rfl ?_ | refine WQ.offU rfl ?_)
   | ((with_reducible refine WO.cid ?_); first | refine WO.x ?_ | ((first | refine op_alloc hg ?_ | refine op_boxA hg ?_ | refine op_box1 hg ?_); clear hg; intro b w hg; refine WO.fr ?_) | ((first | refine op_st hg ?_ | refine op_stA hg ?_ | refine op_pure hg ?_); clear hg; intro w hg; refine WO.fr ?_) | (refine op_pureB hg ?_; clear hg; intro w hg c hc; cases c <;> refine WO.fr ?_))
   | ((with_reducible refine WO.gid ?_); first | refine WO.on rfl ?_ | refine WO.offN rfl rfl ?_ | refine WO.offU rfl ?_))
  refine op_call (cStep_spec (j := j) (by omega) hB hp hL hok (by rw [hj3]; omega) (by rw [hj1]; exact hj2) hj5 (by omega) hJ hnr hSl ⟨sl, fw, fm, fa, fB, hK0, hg⟩) ?_
  clear hg hK0
  rintro _ w ⟨er, n3, t, done, j1, fj1, σ1, s1, x1, T1, rfl, hSl1, ⟨hq1, hq2, hq3, hq4, hq5⟩, hT1, hD1, hC⟩
  refine ⟨_, rfl, ?_⟩
  refine WO.fr ?_
  simp only [resV]
  obtain ⟨sl, fw, fm, fa, fB, hK0, hg⟩ := hC
  simp only [cuF, jF] at hg
  repeat' ((fail_if_success (with_reducible refine WC.at 21 ?_)); first
   | (with_reducible first | refine QX.next ?_ | refine WC.seq ?_ | refine WC.region ?_ | refine WC.block ?_ | refine QX.bnorm ?_ | refine QX.bret ?_ | refine QX.ret ?_ | refine QX.exit ?_ | refine QX.bsame ?_ | refine QX.bother rfl ?_ | refine WO.nil ?_ | refine WC.skip ?_ | refine WC.ret ?_ | refine WC.exit ?_)
   | ((with_reducible refine WC.id ?_); first | refine WC.condT rfl ?_ | refine WC.condF rfl ?_)
   | ((with_reducible refine WQ.nilG ?_); intro w hg) | ((with_reducible refine WQ.cid ?_); first | refine WQ.xG ?_ | refine WQ.pure ?_) | ((with_reducible refine WQ.gid ?_); first | refine WQ.on rfl ?_ | refine WQ.offN rfl rfl ?_ | refine WQ.offU rfl ?_)
   | ((with_reducible refine WO.cid ?_); first | refine WO.x ?_ | ((first | refine op_alloc hg ?_ | refine op_boxA hg ?_ | refine op_box1 hg ?_); clear hg; intro b w hg; refine WO.fr ?_) | ((first | refine op_st hg ?_ | refine op_stA hg ?_ | refine op_pure hg ?_); clear hg; intro w hg; refine WO.fr ?_) | (refine op_pureB hg ?_; clear hg; intro w hg c hc; cases c <;> refine WO.fr ?_))
   | ((with_reducible refine WO.gid ?_); first | refine WO.on rfl ?_ | refine WO.offN rfl rfl ?_ | refine WO.offU rfl ?_))
  refine WC.cut [85, 86, 87, 88, 89, 90, 91, 92, 93, 94, 95, 96, 97, 98] (fun xs w => ∃ (x2 : CU) (s2 : WS), s2.all = s1.all ∧ s2.low = s1.low ∧ s1.fl ≤ s2.fl ∧ Cur W pc (.slice am L.modes.length cm) (.slice ad L.dfas.length cd) (.slice aa L.acts.length ca) L p T1 x2 s2 (jF pj j1 :: fj1 :: [[(bo, .cells [.int .i64 o.k, .int .i64 o.n, .string (str o.dat)].toArray 41 (0, 0))], [(bq, .cells [.slice am L.modes.length cm, .slice ad L.dfas.length cd, .slice aa L.acts.length ca, .int .i64 md, .int .i64 p.bytes, .int .i64 p.trail, .int .i64 p.marks, .int .i64 p.ahead, .int .i64 p.tickets, .int .i64 p.retries, .int .i64 p.step].toArray 30 (0, 0))]]) w) ?_ ?_
  · by_cases hkl : kn < hid.length
    rotate_left
    · repeat' (first
       | (with_reducible first | refine QX.next ?_ | refine WC.seq ?_ | refine WC.region ?_ | refine WC.block ?_ | refine QX.bnorm ?_ | refine QX.bret ?_ | refine QX.ret ?_ | refine QX.exit ?_ | refine QX.bsame ?_ | refine QX.bother rfl ?_ | refine WO.nil ?_ | refine WC.skip ?_ | refine WC.ret ?_ | refine WC.exit ?_)
       | ((with_reducible refine WC.id ?_); first | refine WC.condT rfl ?_ | refine WC.condF rfl ?_)
       | (refine WC.quietG hg ?_; clear hg) | ((with_reducible refine WQ.nilG ?_); intro w hg) | ((with_reducible refine WQ.cid ?_); first | refine WQ.xG ?_ | refine WQ.pure ?_) | ((with_reducible refine WQ.gid ?_); first | refine WQ.on rfl ?_ | refine WQ.offN rfl rfl ?_ | refine WQ.offU rfl ?_)
       | ((with_reducible refine WO.cid ?_); first | refine WO.x ?_ | ((first | refine op_alloc hg ?_ | refine op_boxA hg ?_ | refine op_box1 hg ?_); clear hg; intro b w hg; refine WO.fr ?_) | ((first | refine op_st hg ?_ | refine op_stA hg ?_ | refine op_pure hg ?_); clear hg; intro w hg; refine WO.fr ?_) | (refine op_pureB hg ?_; clear hg; intro w hg c hc; cases c <;> refine WO.fr ?_))
       | ((with_reducible refine WO.gid ?_); first | refine WO.on rfl ?_ | refine WO.offN rfl rfl ?_ | refine WO.offU rfl ?_))
      with_reducible refine CutQ.mk ?_ ?_
      · simp only [setAll, List.map_cons, List.map_nil, gt, List.set_cons_succ, List.set_cons_zero]
      try simp only [List.map_cons, List.map_nil, gt]
      exact ⟨x1, s1, rfl, rfl, Nat.le_refl _, sl, fw, fm, fa, fB, hK0, hg⟩
    obtain ⟨bh, kh, caph, eh, hch, hge⟩ := hH.get (i := kn) hkl
    simp only [Value.slice.injEq] at eh
    obtain ⟨rfl, _, rfl⟩ := eh
    generalize hid.getD kn 0 = hv at hch hge
    have c1 : ∀ {w Fs}, Goes W [] Fs w → w.cell? ⟨bh, kh + kn, none⟩ = some (.int .u8 hv) := fun g => g.cellOld0 hch
    clear hch
    repeat' (first
     | (with_reducible first | refine QX.next ?_ | refine WC.seq ?_ | refine WC.region ?_ | refine WC.block ?_ | refine QX.bnorm ?_ | refine QX.bret ?_ | refine QX.ret ?_ | refine QX.exit ?_ | refine QX.bsame ?_ | refine QX.bother rfl ?_ | refine WO.nil ?_ | refine WC.skip ?_ | refine WC.ret ?_ | refine WC.exit ?_)
     | ((with_reducible refine WC.id ?_); first | refine WC.condT rfl ?_ | refine WC.condF rfl ?_)
     | (refine WC.quietG hg ?_; clear hg) | ((with_reducible refine WQ.nilG ?_); intro w hg) | ((with_reducible refine WQ.cid ?_); first | refine WQ.xG ?_ | refine WQ.pure ?_) | ((with_reducible refine WQ.gid ?_); first | refine WQ.on rfl ?_ | refine WQ.offN rfl rfl ?_ | refine WQ.offU rfl ?_)
     | ((with_reducible refine WO.cid ?_); first | refine WO.x ?_ | ((first | refine op_alloc hg ?_ | refine op_boxA hg ?_ | refine op_box1 hg ?_); clear hg; intro b w hg; refine WO.fr ?_) | ((first | refine op_st hg ?_ | refine op_stA hg ?_ | refine op_pure hg ?_); clear hg; intro w hg; refine WO.fr ?_) | (refine op_pureB hg ?_; clear hg; intro w hg c hc; cases c <;> refine WO.fr ?_))
     | ((with_reducible refine WO.gid ?_); first | refine WO.on rfl ?_ | refine WO.offN rfl rfl ?_ | refine WO.offU rfl ?_))
    clear c1
    refine WO.x (hx := x_rem8) ?_
    by_cases hpar : hv % 2 = 0
    rotate_left
    · repeat' (first
       | (with_reducible first | refine QX.next ?_ | refine WC.seq ?_ | refine WC.region ?_ | refine WC.block ?_ | refine QX.bnorm ?_ | refine QX.bret ?_ | refine QX.ret ?_ | refine QX.exit ?_ | refine QX.bsame ?_ | refine QX.bother rfl ?_ | refine WO.nil ?_ | refine WC.skip ?_ | refine WC.ret ?_ | refine WC.exit ?_)
       | ((with_reducible refine WC.id ?_); first | refine WC.condT rfl ?_ | refine WC.condF rfl ?_)
       | (refine WC.quietG hg ?_; clear hg) | ((with_reducible refine WQ.nilG ?_); intro w hg) | ((with_reducible refine WQ.cid ?_); first | refine WQ.xG ?_ | refine WQ.pure ?_) | ((with_reducible refine WQ.gid ?_); first | refine WQ.on rfl ?_ | refine WQ.offN rfl rfl ?_ | refine WQ.offU rfl ?_)
       | ((with_reducible refine WO.cid ?_); first | refine WO.x ?_ | ((first | refine op_alloc hg ?_ | refine op_boxA hg ?_ | refine op_box1 hg ?_); clear hg; intro b w hg; refine WO.fr ?_) | ((first | refine op_st hg ?_ | refine op_stA hg ?_ | refine op_pure hg ?_); clear hg; intro w hg; refine WO.fr ?_) | (refine op_pureB hg ?_; clear hg; intro w hg c hc; cases c <;> refine WO.fr ?_))
       | ((with_reducible refine WO.gid ?_); first | refine WO.on rfl ?_ | refine WO.offN rfl rfl ?_ | refine WO.offU rfl ?_))
      with_reducible refine CutQ.mk ?_ ?_
      · simp only [setAll, List.map_cons, List.map_nil, gt, List.set_cons_succ, List.set_cons_zero]
      try simp only [List.map_cons, List.map_nil, gt]
      exact ⟨x1, s1, rfl, rfl, Nat.le_refl _, sl, fw, fm, fa, fB, hK0, hg⟩
    repeat' (first
     | (with_reducible first | refine QX.next ?_ | refine WC.seq ?_ | refine WC.region ?_ | refine WC.block ?_ | refine QX.bnorm ?_ | refine QX.bret ?_ | refine QX.ret ?_ | refine QX.exit ?_ | refine QX.bsame ?_ | refine QX.bother rfl ?_ | refine WO.nil ?_ | refine WC.skip ?_ | refine WC.ret ?_ | refine WC.exit ?_)
     | ((with_reducible refine WC.id ?_); first | refine WC.condT rfl ?_ | refine WC.condF rfl ?_)
     | (refine WC.quietG hg ?_; clear hg) | ((with_reducible refine WQ.nilG ?_); intro w hg) | ((with_reducible refine WQ.cid ?_); first | refine WQ.xG ?_ | refine WQ.pure ?_) | ((with_reducible refine WQ.gid ?_); first | refine WQ.on rfl ?_ | refine WQ.offN rfl rfl ?_ | refine WQ.offU rfl ?_)
     | ((with_reducible refine WO.cid ?_); first | refine WO.x ?_ | ((first | refine op_alloc hg ?_ | refine op_boxA hg ?_ | refine op_box1 hg ?_); clear hg; intro b w hg; refine WO.fr ?_) | ((first | refine op_st hg ?_ | refine op_stA hg ?_ | refine op_pure hg ?_); clear hg; intro w hg; refine WO.fr ?_) | (refine op_pureB hg ?_; clear hg; intro w hg c hc; cases c <;> refine WO.fr ?_))
     | ((with_reducible refine WO.gid ?_); first | refine WO.on rfl ?_ | refine WO.offN rfl rfl ?_ | refine WO.offU rfl ?_))
    refine op_call (cScan_spec hB hp hL hok (Fs := jF pj j1 :: fj1 :: [[(bo, .cells [.int .i64 o.k, .int .i64 o.n, .string (str o.dat)].toArray 41 (0, 0))], [(bq, .cells [.slice am L.modes.length cm, .slice ad L.dfas.length cd, .slice aa L.acts.length ca, .int .i64 md, .int .i64 p.bytes, .int .i64 p.trail, .int .i64 p.marks, .int .i64 p.ahead, .int .i64 p.tickets, .int .i64 p.retries, .int .i64 p.step].toArray 30 (0, 0))]]) ⟨sl, fw, fm, fa, fB, hK0, hg⟩) ?_
    clear hg hK0
    rintro _ w ⟨b, s', x', rfl, h1, h2, h3, hC⟩
    refine ⟨_, rfl, ?_⟩
    refine WO.fr ?_
    repeat' (first
     | (with_reducible first | refine QX.next ?_ | refine WC.seq ?_ | refine WC.region ?_ | refine WC.block ?_ | refine QX.bnorm ?_ | refine QX.bret ?_ | refine QX.ret ?_ | refine QX.exit ?_ | refine QX.bsame ?_ | refine QX.bother rfl ?_ | refine WO.nil ?_ | refine WC.skip ?_ | refine WC.ret ?_ | refine WC.exit ?_)
     | ((with_reducible refine WC.id ?_); first | refine WC.condT rfl ?_ | refine WC.condF rfl ?_)
     | (refine WC.quietG hg ?_; clear hg) | ((with_reducible refine WQ.nilG ?_); intro w hg) | ((with_reducible refine WQ.cid ?_); first | refine WQ.xG ?_ | refine WQ.pure ?_) | ((with_reducible refine WQ.gid ?_); first | refine WQ.on rfl ?_ | refine WQ.offN rfl rfl ?_ | refine WQ.offU rfl ?_)
     | ((with_reducible refine WO.cid ?_); first | refine WO.x ?_ | ((first | refine op_alloc hg ?_ | refine op_boxA hg ?_ | refine op_box1 hg ?_); clear hg; intro b w hg; refine WO.fr ?_) | ((first | refine op_st hg ?_ | refine op_stA hg ?_ | refine op_pure hg ?_); clear hg; intro w hg; refine WO.fr ?_) | (refine op_pureB hg ?_; clear hg; intro w hg c hc; cases c <;> refine WO.fr ?_))
     | ((with_reducible refine WO.gid ?_); first | refine WO.on rfl ?_ | refine WO.offN rfl rfl ?_ | refine WO.offU rfl ?_))
    with_reducible refine CutQ.mk ?_ ?_
    · simp only [setAll, List.map_cons, List.map_nil, gt, List.set_cons_succ, List.set_cons_zero]
    try simp only [List.map_cons, List.map_nil, gt]
    exact ⟨x', s', h3, h2, by omega, hC⟩
  clear hg hK0
  intro xs w hlen hI
  replace hlen := len_cons hlen
  obtain ⟨x85, xs, rfl, hlen⟩ := hlen
  replace hlen := len_cons hlen
  obtain ⟨x86, xs, rfl, hlen⟩ := hlen
  replace hlen := len_cons hlen
  obtain ⟨x87, xs, rfl, hlen⟩ := hlen
  replace hlen := len_cons hlen
  obtain ⟨x88, xs, rfl, hlen⟩ := hlen
  replace hlen := len_cons hlen
  obtain ⟨x89, xs, rfl, hlen⟩ := hlen
  replace hlen := len_cons hlen
  obtain ⟨x90, xs, rfl, hlen⟩ := hlen
  replace hlen := len_cons hlen
  obtain ⟨x91, xs, rfl, hlen⟩ := hlen
  replace hlen := len_cons hlen
  obtain ⟨x92, xs, rfl, hlen⟩ := hlen
  replace hlen := len_cons hlen
  obtain ⟨x93, xs, rfl, hlen⟩ := hlen
  replace hlen := len_cons hlen
  obtain ⟨x94, xs, rfl, hlen⟩ := hlen
  replace hlen := len_cons hlen
  obtain ⟨x95, xs, rfl, hlen⟩ := hlen
  replace hlen := len_cons hlen
  obtain ⟨x96, xs, rfl, hlen⟩ := hlen
  replace hlen := len_cons hlen
  obtain ⟨x97, xs, rfl, hlen⟩ := hlen
  replace hlen := len_cons hlen
  obtain ⟨x98, xs, rfl, hlen⟩ := hlen
  replace hlen := len_nil hlen
  subst hlen
  refine QX.frame (by simp only [setAll, List.set_cons_succ, List.set_cons_zero]; exact rfl) ?_
  try simp only [gt] at hI
  obtain ⟨x2, s2, ha2, hl2, hf2, sl, fw, fm, fa, fB, hK0, hg⟩ := hI
  simp only [cuF, jF] at hg
  repeat' ((fail_if_success (with_reducible refine WC.at 23 ?_)); first
   | (with_reducible first | refine QX.next ?_ | refine WC.seq ?_ | refine WC.region ?_ | refine WC.block ?_ | refine QX.bnorm ?_ | refine QX.bret ?_ | refine QX.ret ?_ | refine QX.exit ?_ | refine QX.bsame ?_ | refine QX.bother rfl ?_ | refine WO.nil ?_ | refine WC.skip ?_ | refine WC.ret ?_ | refine WC.exit ?_)
   | ((with_reducible refine WC.id ?_); first | refine WC.condT rfl ?_ | refine WC.condF rfl ?_)
   | ((with_reducible refine WQ.nilG ?_); intro w hg) | ((with_reducible refine WQ.cid ?_); first | refine WQ.xG ?_ | refine WQ.pure ?_) | ((with_reducible refine WQ.gid ?_); first | refine WQ.on rfl ?_ | refine WQ.offN rfl rfl ?_ | refine WQ.offU rfl ?_)
   | ((with_reducible refine WO.cid ?_); first | refine WO.x ?_ | ((first | refine op_alloc hg ?_ | refine op_boxA hg ?_ | refine op_box1 hg ?_); clear hg; intro b w hg; refine WO.fr ?_) | ((first | refine op_st hg ?_ | refine op_stA hg ?_ | refine op_pure hg ?_); clear hg; intro w hg; refine WO.fr ?_) | (refine op_pureB hg ?_; clear hg; intro w hg c hc; cases c <;> refine WO.fr ?_))
   | ((with_reducible refine WO.gid ?_); first | refine WO.on rfl ?_ | refine WO.offN rfl rfl ?_ | refine WO.offU rfl ?_))
  refine WC.cut [99, 100, 101, 102, 103, 104, 105, 106, 107, 108, 109, 110, 111, 112] (fun xs w => ∃ (x3 : CU) (s3 : WS), s3.all = s2.all ∧ s3.low = s2.low ∧ s2.fl ≤ s3.fl ∧ Cur W pc (.slice am L.modes.length cm) (.slice ad L.dfas.length cd) (.slice aa L.acts.length ca) L p T1 x3 s3 (jF pj j1 :: fj1 :: [[(bo, .cells [.int .i64 o.k, .int .i64 o.n, .string (str o.dat)].toArray 41 (0, 0))], [(bq, .cells [.slice am L.modes.length cm, .slice ad L.dfas.length cd, .slice aa L.acts.length ca, .int .i64 md, .int .i64 p.bytes, .int .i64 p.trail, .int .i64 p.marks, .int .i64 p.ahead, .int .i64 p.tickets, .int .i64 p.retries, .int .i64 p.step].toArray 30 (0, 0))]]) w) ?_ ?_
  · by_cases hkl : kn < hid.length
    rotate_left
    · repeat' (first
       | (with_reducible first | refine QX.next ?_ | refine WC.seq ?_ | refine WC.region ?_ | refine WC.block ?_ | refine QX.bnorm ?_ | refine QX.bret ?_ | refine QX.ret ?_ | refine QX.exit ?_ | refine QX.bsame ?_ | refine QX.bother rfl ?_ | refine WO.nil ?_ | refine WC.skip ?_ | refine WC.ret ?_ | refine WC.exit ?_)
       | ((with_reducible refine WC.id ?_); first | refine WC.condT rfl ?_ | refine WC.condF rfl ?_)
       | (refine WC.quietG hg ?_; clear hg) | ((with_reducible refine WQ.nilG ?_); intro w hg) | ((with_reducible refine WQ.cid ?_); first | refine WQ.xG ?_ | refine WQ.pure ?_) | ((with_reducible refine WQ.gid ?_); first | refine WQ.on rfl ?_ | refine WQ.offN rfl rfl ?_ | refine WQ.offU rfl ?_)
       | ((with_reducible refine WO.cid ?_); first | refine WO.x ?_ | ((first | refine op_alloc hg ?_ | refine op_boxA hg ?_ | refine op_box1 hg ?_); clear hg; intro b w hg; refine WO.fr ?_) | ((first | refine op_st hg ?_ | refine op_stA hg ?_ | refine op_pure hg ?_); clear hg; intro w hg; refine WO.fr ?_) | (refine op_pureB hg ?_; clear hg; intro w hg c hc; cases c <;> refine WO.fr ?_))
       | ((with_reducible refine WO.gid ?_); first | refine WO.on rfl ?_ | refine WO.offN rfl rfl ?_ | refine WO.offU rfl ?_))
      with_reducible refine CutQ.mk ?_ ?_
      · simp only [setAll, List.map_cons, List.map_nil, gt, List.set_cons_succ, List.set_cons_zero]
      try simp only [List.map_cons, List.map_nil, gt]
      exact ⟨x2, s2, rfl, rfl, Nat.le_refl _, sl, fw, fm, fa, fB, hK0, hg⟩
    obtain ⟨bh, kh, caph, eh, hch, hge⟩ := hH.get (i := kn) hkl
    simp only [Value.slice.injEq] at eh
    obtain ⟨rfl, _, rfl⟩ := eh
    generalize hid.getD kn 0 = hv at hch hge
    have c1 : ∀ {w Fs}, Goes W [] Fs w → w.cell? ⟨bh, kh + kn, none⟩ = some (.int .u8 hv) := fun g => g.cellOld0 hch
    clear hch
    repeat' (first
     | (with_reducible first | refine QX.next ?_ | refine WC.seq ?_ | refine WC.region ?_ | refine WC.block ?_ | refine QX.bnorm ?_ | refine QX.bret ?_ | refine QX.ret ?_ | refine QX.exit ?_ | refine QX.bsame ?_ | refine QX.bother rfl ?_ | refine WO.nil ?_ | refine WC.skip ?_ | refine WC.ret ?_ | refine WC.exit ?_)
     | ((with_reducible refine WC.id ?_); first | refine WC.condT rfl ?_ | refine WC.condF rfl ?_)
     | (refine WC.quietG hg ?_; clear hg) | ((with_reducible refine WQ.nilG ?_); intro w hg) | ((with_reducible refine WQ.cid ?_); first | refine WQ.xG ?_ | refine WQ.pure ?_) | ((with_reducible refine WQ.gid ?_); first | refine WQ.on rfl ?_ | refine WQ.offN rfl rfl ?_ | refine WQ.offU rfl ?_)
     | ((with_reducible refine WO.cid ?_); first | refine WO.x ?_ | ((first | refine op_alloc hg ?_ | refine op_boxA hg ?_ | refine op_box1 hg ?_); clear hg; intro b w hg; refine WO.fr ?_) | ((first | refine op_st hg ?_ | refine op_stA hg ?_ | refine op_pure hg ?_); clear hg; intro w hg; refine WO.fr ?_) | (refine op_pureB hg ?_; clear hg; intro w hg c hc; cases c <;> refine WO.fr ?_))
     | ((with_reducible refine WO.gid ?_); first | refine WO.on rfl ?_ | refine WO.offN rfl rfl ?_ | refine WO.offU rfl ?_))
    clear c1
    refine WO.x (hx := x_rem8) ?_
    by_cases hpar : hv % 3 = 0
    rotate_left
    · repeat' (first
       | (with_reducible first | refine QX.next ?_ | refine WC.seq ?_ | refine WC.region ?_ | refine WC.block ?_ | refine QX.bnorm ?_ | refine QX.bret ?_ | refine QX.ret ?_ | refine QX.exit ?_ | refine QX.bsame ?_ | refine QX.bother rfl ?_ | refine WO.nil ?_ | refine WC.skip ?_ | refine WC.ret ?_ | refine WC.exit ?_)
       | ((with_reducible refine WC.id ?_); first | refine WC.condT rfl ?_ | refine WC.condF rfl ?_)
       | (refine WC.quietG hg ?_; clear hg) | ((with_reducible refine WQ.nilG ?_); intro w hg) | ((with_reducible refine WQ.cid ?_); first | refine WQ.xG ?_ | refine WQ.pure ?_) | ((with_reducible refine WQ.gid ?_); first | refine WQ.on rfl ?_ | refine WQ.offN rfl rfl ?_ | refine WQ.offU rfl ?_)
       | ((with_reducible refine WO.cid ?_); first | refine WO.x ?_ | ((first | refine op_alloc hg ?_ | refine op_boxA hg ?_ | refine op_box1 hg ?_); clear hg; intro b w hg; refine WO.fr ?_) | ((first | refine op_st hg ?_ | refine op_stA hg ?_ | refine op_pure hg ?_); clear hg; intro w hg; refine WO.fr ?_) | (refine op_pureB hg ?_; clear hg; intro w hg c hc; cases c <;> refine WO.fr ?_))
       | ((with_reducible refine WO.gid ?_); first | refine WO.on rfl ?_ | refine WO.offN rfl rfl ?_ | refine WO.offU rfl ?_))
      with_reducible refine CutQ.mk ?_ ?_
      · simp only [setAll, List.map_cons, List.map_nil, gt, List.set_cons_succ, List.set_cons_zero]
      try simp only [List.map_cons, List.map_nil, gt]
      exact ⟨x2, s2, rfl, rfl, Nat.le_refl _, sl, fw, fm, fa, fB, hK0, hg⟩
    repeat' (first
     | (with_reducible first | refine QX.next ?_ | refine WC.seq ?_ | refine WC.region ?_ | refine WC.block ?_ | refine QX.bnorm ?_ | refine QX.bret ?_ | refine QX.ret ?_ | refine QX.exit ?_ | refine QX.bsame ?_ | refine QX.bother rfl ?_ | refine WO.nil ?_ | refine WC.skip ?_ | refine WC.ret ?_ | refine WC.exit ?_)
     | ((with_reducible refine WC.id ?_); first | refine WC.condT rfl ?_ | refine WC.condF rfl ?_)
     | (refine WC.quietG hg ?_; clear hg) | ((with_reducible refine WQ.nilG ?_); intro w hg) | ((with_reducible refine WQ.cid ?_); first | refine WQ.xG ?_ | refine WQ.pure ?_) | ((with_reducible refine WQ.gid ?_); first | refine WQ.on rfl ?_ | refine WQ.offN rfl rfl ?_ | refine WQ.offU rfl ?_)
     | ((with_reducible refine WO.cid ?_); first | refine WO.x ?_ | ((first | refine op_alloc hg ?_ | refine op_boxA hg ?_ | refine op_box1 hg ?_); clear hg; intro b w hg; refine WO.fr ?_) | ((first | refine op_st hg ?_ | refine op_stA hg ?_ | refine op_pure hg ?_); clear hg; intro w hg; refine WO.fr ?_) | (refine op_pureB hg ?_; clear hg; intro w hg c hc; cases c <;> refine WO.fr ?_))
     | ((with_reducible refine WO.gid ?_); first | refine WO.on rfl ?_ | refine WO.offN rfl rfl ?_ | refine WO.offU rfl ?_))
    refine op_call (cReclaim_spec (Fs := jF pj j1 :: fj1 :: [[(bo, .cells [.int .i64 o.k, .int .i64 o.n, .string (str o.dat)].toArray 41 (0, 0))], [(bq, .cells [.slice am L.modes.length cm, .slice ad L.dfas.length cd, .slice aa L.acts.length ca, .int .i64 md, .int .i64 p.bytes, .int .i64 p.trail, .int .i64 p.marks, .int .i64 p.ahead, .int .i64 p.tickets, .int .i64 p.retries, .int .i64 p.step].toArray 30 (0, 0))]]) ⟨sl, fw, fm, fa, fB, hK0, hg⟩) ?_
    clear hg hK0
    rintro _ w ⟨s', ⟨b, rfl⟩, h3, h2, h1, hC⟩
    obtain ⟨x', rfl⟩ : ∃ z, z = x2 := ⟨x2, rfl⟩
    refine ⟨_, rfl, ?_⟩
    refine WO.fr ?_
    repeat' (first
     | (with_reducible first | refine QX.next ?_ | refine WC.seq ?_ | refine WC.region ?_ | refine WC.block ?_ | refine QX.bnorm ?_ | refine QX.bret ?_ | refine QX.ret ?_ | refine QX.exit ?_ | refine QX.bsame ?_ | refine QX.bother rfl ?_ | refine WO.nil ?_ | refine WC.skip ?_ | refine WC.ret ?_ | refine WC.exit ?_)
     | ((with_reducible refine WC.id ?_); first | refine WC.condT rfl ?_ | refine WC.condF rfl ?_)
     | (refine WC.quietG hg ?_; clear hg) | ((with_reducible refine WQ.nilG ?_); intro w hg) | ((with_reducible refine WQ.cid ?_); first | refine WQ.xG ?_ | refine WQ.pure ?_) | ((with_reducible refine WQ.gid ?_); first | refine WQ.on rfl ?_ | refine WQ.offN rfl rfl ?_ | refine WQ.offU rfl ?_)
     | ((with_reducible refine WO.cid ?_); first | refine WO.x ?_ | ((first | refine op_alloc hg ?_ | refine op_boxA hg ?_ | refine op_box1 hg ?_); clear hg; intro b w hg; refine WO.fr ?_) | ((first | refine op_st hg ?_ | refine op_stA hg ?_ | refine op_pure hg ?_); clear hg; intro w hg; refine WO.fr ?_) | (refine op_pureB hg ?_; clear hg; intro w hg c hc; cases c <;> refine WO.fr ?_))
     | ((with_reducible refine WO.gid ?_); first | refine WO.on rfl ?_ | refine WO.offN rfl rfl ?_ | refine WO.offU rfl ?_))
    with_reducible refine CutQ.mk ?_ ?_
    · simp only [setAll, List.map_cons, List.map_nil, gt, List.set_cons_succ, List.set_cons_zero]
    try simp only [List.map_cons, List.map_nil, gt]
    exact ⟨x', s', h3, h2, by omega, hC⟩
  clear hg hK0
  intro xs w hlen hI
  replace hlen := len_cons hlen
  obtain ⟨x99, xs, rfl, hlen⟩ := hlen
  replace hlen := len_cons hlen
  obtain ⟨x100, xs, rfl, hlen⟩ := hlen
  replace hlen := len_cons hlen
  obtain ⟨x101, xs, rfl, hlen⟩ := hlen
  replace hlen := len_cons hlen
  obtain ⟨x102, xs, rfl, hlen⟩ := hlen
  replace hlen := len_cons hlen
  obtain ⟨x103, xs, rfl, hlen⟩ := hlen
  replace hlen := len_cons hlen
  obtain ⟨x104, xs, rfl, hlen⟩ := hlen
  replace hlen := len_cons hlen
  obtain ⟨x105, xs, rfl, hlen⟩ := hlen
  replace hlen := len_cons hlen
  obtain ⟨x106, xs, rfl, hlen⟩ := hlen
  replace hlen := len_cons hlen
  obtain ⟨x107, xs, rfl, hlen⟩ := hlen
  replace hlen := len_cons hlen
  obtain ⟨x108, xs, rfl, hlen⟩ := hlen
  replace hlen := len_cons hlen
  obtain ⟨x109, xs, rfl, hlen⟩ := hlen
  replace hlen := len_cons hlen
  obtain ⟨x110, xs, rfl, hlen⟩ := hlen
  replace hlen := len_cons hlen
  obtain ⟨x111, xs, rfl, hlen⟩ := hlen
  replace hlen := len_cons hlen
  obtain ⟨x112, xs, rfl, hlen⟩ := hlen
  replace hlen := len_nil hlen
  subst hlen
  refine QX.frame (by simp only [setAll, List.set_cons_succ, List.set_cons_zero]; exact rfl) ?_
  try simp only [gt] at hI
  obtain ⟨x3, s3, ha3, hl3, hf3, sl, fw, fm, fa, fB, hK0, hg⟩ := hI
  simp only [cuF, jF] at hg
  repeat' (first
   | (with_reducible first | refine QX.next ?_ | refine WC.seq ?_ | refine WC.region ?_ | refine WC.block ?_ | refine QX.bnorm ?_ | refine QX.bret ?_ | refine QX.ret ?_ | refine QX.exit ?_ | refine QX.bsame ?_ | refine QX.bother rfl ?_ | refine WO.nil ?_ | refine WC.skip ?_ | refine WC.ret ?_ | refine WC.exit ?_)
   | ((with_reducible refine WC.id ?_); first | refine WC.condT rfl ?_ | refine WC.condF rfl ?_)
   | (refine WC.quietG hg ?_; clear hg) | ((with_reducible refine WQ.nilG ?_); intro w hg) | ((with_reducible refine WQ.cid ?_); first | refine WQ.xG ?_ | refine WQ.pure ?_) | ((with_reducible refine WQ.gid ?_); first | refine WQ.on rfl ?_ | refine WQ.offN rfl rfl ?_ | refine WQ.offU rfl ?_)
   | ((with_reducible refine WO.cid ?_); first | refine WO.x ?_ | ((first | refine op_alloc hg ?_ | refine op_boxA hg ?_ | refine op_box1 hg ?_); clear hg; intro b w hg; refine WO.fr ?_) | ((first | refine op_st hg ?_ | refine op_stA hg ?_ | refine op_pure hg ?_); clear hg; intro w hg; refine WO.fr ?_) | (refine op_pureB hg ?_; clear hg; intro w hg c hc; cases c <;> refine WO.fr ?_))
   | ((with_reducible refine WO.gid ?_); first | refine WO.on rfl ?_ | refine WO.offN rfl rfl ?_ | refine WO.offU rfl ?_))
  with_reducible refine QX.norm ?_
  refine hK _ _ _ ?_ ?_ ?_
  · simp only [setAll, List.map_cons, List.map_nil, gt, List.set_cons_succ, List.set_cons_zero]
  all_goals try simp only [List.map_cons, List.map_nil, gt, intOf]
  · refine ⟨n + 1, kn + 1, T1, x3, s3, j1, fj1, σ1, done, trivial, rfl, rfl, rfl, by omega, ⟨hq1.trans hj1, hq2.trans hj2, hq3.trans hj3, by rw [hq4, hj4]; rfl, hq5⟩, hSl1, hT1, by omega, fun hd => ?_, sl, fw, fm, fa, fB, hK0, hg⟩
    obtain ⟨e1, e2, e3, e4, e5, e6, e7⟩ := hD1 hd
    have hm := pot_mono (p := p) (B := B) (j := j1) (σ := σ1) (ha3.trans ha2) (hl3.trans hl2) (Nat.le_trans hf2 hf3)
    refine ⟨e1, by omega, ?_, e7⟩
    rw [ha3, ha2, e2]
    exact e5
  · omega
end
end Go.Proofs.YtkdidefghbeabaaGreat
