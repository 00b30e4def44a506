/- Books: what none answers; nothing, loaded; keys and devices of numbers: the walks. -/
import Derived.Test.YtcplbkbimpiioaaGreatDoorTruM
import Derived.Test.YtcplbkbimpiioaaGreatDoorWireC
namespace Go.Proofs.YtcplbkbimpiioaaGreatDoor
open Go Go.RowKit
theorem numB_nil (a : Int) (w : World) (hw : OK w (fpL []) [] w) : Fn Tryz.prog 12 [.pointer none, .int .u8 a] [] w (fun _ : Unit => True) (fun _ => .tuple #[.string ⟨#[]⟩, .int .i64 1]) (fun _ => []) := by
  refine enterM Tryz.func12 rfl Tryz.ntmps12 rfl hw ?_
  refine WC.seq ?_
  refine WC.region ?_
  refine WL.y (Yl.assign rfl) rfl ?_
  refine WL.y (Yl.assign rfl) rfl ?_
  refine WL.nil ?_
  refine WC.seq ?_
  refine WC.seq ?_
  refine WC.region ?_
  refine WL.y (Yl.move rfl) rfl ?_
  refine WL.y (Yl.nilEq un25 rfl rfl) rfl ?_
  refine WL.know (t := 10) (b' := true) rfl (by first | rfl | (simp; done) | (simp; omega)) ?_
  refine WL.nil ?_
  refine WC.condT rfl (by first | rfl | (simp; done) | (simp; omega)) ?_
  refine WC.seq ?_
  refine WC.region ?_
  refine WL.y (Yl.assign rfl) rfl ?_
  refine WL.y (Yl.assign rfl) rfl ?_
  refine WL.nil ?_
  refine WC.ret ?_
  repeat (with_reducible (first | refine peelT ?_ | refine peelB ?_ | refine peelTX ?_ | refine peelBX ?_ | refine peelBN ?_ | refine peelBO rfl ?_))
  refine retM.of .nil ?_
  exact ret2 (.inr rfl) Tryz.results12 rfl rfl fun w' h => ⟨(), trivial, rfl, h.sub (by repeat' constructor)⟩
theorem verify_nil (a : Int) (x : Value) (hx : x = .string ⟨#[]⟩) (w : World) (hw : OK w (fpL []) [] w) : Fn Tryz.prog 10 [.pointer none, .int .u8 a, x] [] w (fun _ : Unit => True) (fun _ => .int .i64 1) (fun _ => []) := by
  refine enterF Tryz.func10 rfl Tryz.ntmps10 rfl hw ?_
  refine WC.seq ?_
  refine WC.region ?_
  refine WL.y (Yl.assign rfl) rfl ?_
  refine WL.nil ?_
  refine WC.seq ?_
  refine WC.region ?_
  refine WL.y (Yl.move rfl) rfl ?_
  refine WL.y (Yl.move rfl) rfl ?_
  refine WL.callC (xs := [.tmp 10, .tmp 11]) (cap := []) rfl rfl en12 (by repeat' constructor) (fun w hw => numB_nil a w hw.left.here) rfl ?_
  rintro ⟨⟩ -
  refine WL.y (Yl.move rfl) rfl ?_
  refine WL.y (Yl.extract rfl rfl) rfl ?_
  refine WL.y (Yl.extract rfl rfl) rfl ?_
  refine WL.y (Yl.assign rfl) rfl ?_
  refine WL.y (Yl.assign rfl) rfl ?_
  refine WL.nil ?_
  refine WC.seq ?_
  refine WC.block ?_
  refine WC.seq ?_
  refine WC.region ?_
  refine WL.y (Yl.move rfl) rfl ?_
  refine WL.y (Yl.neq rfl rfl) rfl ?_
  refine WL.y (Yl.assign rfl) rfl ?_
  refine WL.know (t := 15) (b' := true) rfl (by first | rfl | (simp; done) | (simp; omega)) ?_
  refine WL.nil ?_
  refine WC.condT rfl (by first | rfl | (simp; done) | (simp; omega)) ?_
  refine WC.seq ?_
  refine WC.region ?_
  refine WL.y (Yl.move rfl) rfl ?_
  refine WL.y (Yl.assign rfl) rfl ?_
  refine WL.nil ?_
  refine WC.ret ?_
  repeat (with_reducible (first | refine peelT ?_ | refine peelB ?_ | refine peelTX ?_ | refine peelBX ?_ | refine peelBN ?_ | refine peelBO rfl ?_))
  exact ret1 (.inr rfl) Tryz.results10 rfl fun w' h => ⟨(), trivial, rfl, h.sub (by repeat' constructor)⟩
theorem accept_nil (a : Int) (w : World) (hw : OK w (fpL []) [] w) : Fn Tryz.prog 15 [.pointer none, .int .u8 a] [] w (fun _ : Unit => True) (fun _ => .int .i64 1) (fun _ => []) := by
  refine enterF Tryz.func15 rfl Tryz.ntmps15 rfl hw ?_
  refine WC.seq ?_
  refine WC.region ?_
  refine WL.y (Yl.assign rfl) rfl ?_
  refine WL.nil ?_
  refine WC.seq ?_
  refine WC.block ?_
  refine WC.seq ?_
  refine WC.region ?_
  refine WL.y (Yl.move rfl) rfl ?_
  refine WL.y (Yl.nilEq un25 rfl rfl) rfl ?_
  refine WL.know (t := 7) (b' := true) rfl (by first | rfl | (simp; done) | (simp; omega)) ?_
  refine WL.y (Yl.assign rfl) rfl ?_
  refine WL.nil ?_
  refine WC.condT rfl (by first | rfl | (simp; done) | (simp; omega)) ?_
  refine WC.seq ?_
  refine WC.region ?_
  refine WL.y (Yl.assign rfl) rfl ?_
  refine WL.nil ?_
  refine WC.ret ?_
  repeat (with_reducible (first | refine peelT ?_ | refine peelB ?_ | refine peelTX ?_ | refine peelBX ?_ | refine peelBN ?_ | refine peelBO rfl ?_))
  exact ret1 (.inr rfl) Tryz.results15 rfl fun w' h => ⟨(), trivial, rfl, h.sub (by repeat' constructor)⟩
theorem forget_nil (x : Value) (a d : Int) (hx : x = .agg #[.int .u8 a, .int .u8 d]) (w : World) (hw : OK w (fpL []) [] w) : Fn Tryz.prog 8 [.pointer none, x] [] w (fun _ : Unit => True) (fun _ => .int .i64 1) (fun _ => []) := by
  subst hx
  refine enterF Tryz.func8 rfl Tryz.ntmps8 rfl hw ?_
  refine WC.seq ?_
  refine WC.region ?_
  refine WL.to (To.box (cs := [.int .u8 a, .int .u8 d]) rfl rfl) rfl ?_
  intro b3
  refine WL.y (Yl.assign rfl) rfl ?_
  refine WL.nil ?_
  refine WC.seq ?_
  refine WC.seq ?_
  refine WC.region ?_
  refine WL.y (Yl.move rfl) rfl ?_
  refine WL.y (Yl.loadN ag40 rfl (by repeat constructor) (by rfl) (by rfl)) rfl ?_
  refine WL.callC (xs := [.tmp 7, .tmp 8]) (cap := []) rfl rfl en25 (by repeat' constructor) (fun w hw => may_nil (.agg #[.int .u8 a, .int .u8 d]) a d rfl w hw.left.here) rfl ?_
  rintro ⟨⟩ -
  refine WL.y (Yl.assign rfl) rfl ?_
  refine WL.nil ?_
  refine WC.seq ?_
  refine WC.region ?_
  refine WL.y (Yl.move rfl) rfl ?_
  refine WL.y (Yl.neq rfl rfl) rfl ?_
  refine WL.nil ?_
  refine WC.condT rfl (by first | rfl | (simp; done) | (simp; omega)) ?_
  refine WC.seq ?_
  refine WC.region ?_
  refine WL.y (Yl.move rfl) rfl ?_
  refine WL.y (Yl.assign rfl) rfl ?_
  refine WL.nil ?_
  refine WC.ret ?_
  repeat (with_reducible (first | refine peelT ?_ | refine peelB ?_ | refine peelTX ?_ | refine peelBX ?_ | refine peelBN ?_ | refine peelBO rfl ?_))
  exact ret1 (.inr rfl) Tryz.results8 rfl fun w' h => ⟨(), trivial, rfl, h.sub (by repeat' constructor)⟩
theorem bytes_nil (w : World) (hw : OK w (fpL []) [] w) : Fn Tryz.prog 18 [.pointer none] [] w (fun _ : Unit => True) (fun _ => .slice none 0 0) (fun _ => []) := by
  refine enterM Tryz.func18 rfl Tryz.ntmps18 rfl hw ?_
  refine WC.seq ?_
  refine WC.region ?_
  refine WL.y (Yl.assign rfl) rfl ?_
  refine WL.nil ?_
  refine WC.seq ?_
  refine WC.seq ?_
  refine WC.region ?_
  refine WL.y (Yl.move rfl) rfl ?_
  refine WL.y (Yl.nilEq un25 rfl rfl) rfl ?_
  refine WL.know (t := 12) (b' := true) rfl (by first | rfl | (simp; done) | (simp; omega)) ?_
  refine WL.nil ?_
  refine WC.condT rfl (by first | rfl | (simp; done) | (simp; omega)) ?_
  refine WC.seq ?_
  refine WC.region ?_
  refine WL.y (Yl.assign rfl) rfl ?_
  refine WL.nil ?_
  refine WC.ret ?_
  repeat (with_reducible (first | refine peelT ?_ | refine peelB ?_ | refine peelTX ?_ | refine peelBX ?_ | refine peelBN ?_ | refine peelBO rfl ?_))
  refine retM.of .nil ?_
  exact ret1 (.inr rfl) Tryz.results18 rfl fun w' h => ⟨(), trivial, rfl, h.sub (by repeat' constructor)⟩
theorem keys1_nil (b2 b3 : Nat) (a : Int) (w : World) (hA : OK w (fpL [roR (blkR b2 25 [.pointer none]), roR (blkR b3 5 [.int .u8 a])]) [roR (blkR b2 25 [.pointer none]), roR (blkR b3 5 [.int .u8 a])] w) :
    Iter Tryz.prog 58 ([.pointer (some ⟨b2, 0, none⟩), .pointer (some ⟨b3, 0, none⟩)] : List Value).toArray (fpL [roR (blkR b2 25 [.pointer none]), roR (blkR b3 5 [.int .u8 a])]).rd [] w := by
  have hwr : ∀ r ∈ [roR (blkR b2 25 [.pointer none]), roR (blkR b3 5 [.int .u8 a])], ∀ k, ¬ r.wr k := ro_nowr (A := [blkR b2 25 [.pointer none], blkR b3 5 [.int .u8 a]])
  refine iter_of Tryz.func58 rfl Tryz.ntmps58 rfl hA hwr ?_
  intro l W g gx T0 hy
  refine WC.seq ?_
  refine WC.seq ?_
  refine WC.drawRead mixed (by kernel_rfl) ?_
  refine WH.y (Yl.loadRo (T := 25) (cs := [.pointer none]) on25 rfl (by repeat constructor) rfl) rfl ?_
  refine WH.y (Yl.nilEq un25 rfl rfl) rfl ?_
  refine WH.y (Yl.move rfl) rfl ?_
  refine WH.know (t := 9) (b' := true) rfl (by first | rfl | (simp; done) | (simp; omega)) ?_
  refine WH.off rfl rfl rfl rfl ?_
  refine WH.off rfl rfl rfl rfl ?_
  refine WH.off rfl rfl rfl rfl ?_
  refine WH.off rfl rfl rfl rfl ?_
  refine WH.off rfl rfl rfl rfl ?_
  refine WH.off rfl rfl rfl rfl ?_
  refine WH.off rfl rfl rfl rfl ?_
  refine WH.y (Yl.pickT rfl rfl) rfl ?_
  refine WH.know (t := 17) (b' := true) rfl (by first | rfl | (simp; done) | (simp; omega)) ?_
  refine WH.nil ?_
  refine WC.condT rfl (by first | rfl | (simp; done) | (simp; omega)) ?_
  refine WC.ret ?_
  repeat (with_reducible (first | refine peelT ?_ | refine peelB ?_ | refine peelTX ?_ | refine peelBX ?_ | refine peelBN ?_ | refine peelBO rfl ?_))
  exact itEnd (.inr rfl) Tryz.results58 (by repeat constructor)
theorem keys_nil (a : Int) (w : World) (hw : OK w (fpL []) [] w) :
    Fn Tryz.prog 23 [.pointer none, .int .u8 a] [] w (fun _ : (Nat × Nat) × (Nat → Prop) => True) (fun y => .func (.func 58) #[] #[.pointer (some ⟨y.1.1, 0, none⟩), .pointer (some ⟨y.1.2, 0, none⟩)]) (fun y => [itR Tryz.prog 58 [.pointer (some ⟨y.1.1, 0, none⟩), .pointer (some ⟨y.1.2, 0, none⟩)] y.2 []]) := by
  refine enterF Tryz.func23 rfl Tryz.ntmps23 rfl hw ?_
  refine WC.seq ?_
  refine WC.region ?_
  refine WL.to (To.box (cs := [.pointer none]) rfl rfl) rfl ?_
  intro b2
  refine WL.to (To.box (cs := [.int .u8 a]) rfl rfl) rfl ?_
  intro b3
  refine WL.y (Yl.assign rfl) rfl ?_
  refine WL.nil ?_
  refine WC.seq ?_
  refine WC.region ?_
  refine WL.y (Yl.makeFunc (xs := []) (ys := [.tmp 2, .tmp 3]) rfl rfl) rfl ?_
  refine WL.y (Yl.assign rfl) rfl ?_
  refine WL.nil ?_
  refine WC.ret ?_
  repeat (with_reducible (first | refine peelT ?_ | refine peelB ?_ | refine peelTX ?_ | refine peelBX ?_ | refine peelBN ?_ | refine peelBO rfl ?_))
  refine ret1 (.inr rfl) Tryz.results23 rfl fun w' hh => ⟨((b2, b3), (fpL [blkR b2 25 [.pointer none], blkR b3 5 [.int .u8 a]]).rd), trivial, rfl, ?_⟩
  have hA : OK w _ ([blkR b2 25 [.pointer none], blkR b3 5 [.int .u8 a]] ++ []) w' := hh.sub (by repeat' constructor)
  exact hA.toIter (rd_ro [blkR b2 25 [.pointer none], blkR b3 5 [.int .u8 a]] ▸ keys1_nil b2 b3 a w' hA.freeze.here) (fun k hk => hk)
/-- The key of a byte. -/
def kyOf (n : Nat) (h : n < 256) : Ky := ⟨(n : Int) :: List.replicate 31 0, by simp, by
  intro x hx
  rcases List.mem_cons.1 hx with rfl | hx
  · omega
  · rw [List.eq_of_mem_replicate hx]; decide⟩
theorem key_any (n : Nat) (h : n < 256) (w : World) (hw : OK w (fpL []) [] w) : Fn Tryz.prog 20 [.int .u8 (n : Int)] [] w (fun _ : Unit => True) (fun _ => kyV (kyOf n h)) (fun _ => []) := by
  refine enterF Tryz.func20 rfl Tryz.ntmps20 rfl hw ?_
  refine WC.seq ?_
  refine WC.region ?_
  refine WL.to (To.alloc (cs := ints .u8 (List.replicate 32 0)) zr32 rfl) rfl ?_
  intro b2
  refine WL.nil ?_
  refine WC.seq ?_
  refine WC.region ?_
  refine WL.y (Yl.move rfl) rfl ?_
  refine WL.y (Yl.build rfl (cs := (kyOf n h).cells) (fun _ => by kernel_rfl)) rfl ?_
  refine WL.sto (Sto.agg sz32 rfl rfl (by repeat constructor) (kyOf n h).ones (kyOf n h).clen (by rfl) (putAll rfl)) (fun _ h => nomatch h) ?_
  refine WL.nil ?_
  refine WC.ret ?_
  repeat (with_reducible (first | refine peelT ?_ | refine peelB ?_ | refine peelTX ?_ | refine peelBX ?_ | refine peelBN ?_ | refine peelBO rfl ?_))
  exact retC1 (.inr rfl) Tryz.results20 ag32 rfl (by repeat constructor) (kyOf n h).clen fun w' h => ⟨(), trivial, rfl, h.sub (by repeat' constructor)⟩
theorem dev_any (a d : Int) (w : World) (hw : OK w (fpL []) [] w) : Fn Tryz.prog 21 [.int .u8 a, .int .u8 d] [] w (fun _ : Unit => True) (fun _ => .agg #[.int .u8 a, .int .u8 d]) (fun _ => []) := by
  refine enterF Tryz.func21 rfl Tryz.ntmps21 rfl hw ?_
  refine WC.seq ?_
  refine WC.region ?_
  refine WL.to (To.alloc (cs := [.int .u8 0, .int .u8 0]) zr40 rfl) rfl ?_
  intro b4
  refine WL.nil ?_
  refine WC.seq ?_
  refine WC.region ?_
  refine WL.y (Yl.move rfl) rfl ?_
  refine WL.y (Yl.move rfl) rfl ?_
  refine WL.y (Yl.build rfl (cs := [.int .u8 a, .int .u8 d]) (fun _ => by kernel_rfl)) rfl ?_
  refine WL.sto (Sto.agg sz40 rfl rfl (by repeat constructor) (by intro v hv; simp at hv; rcases hv with rfl | rfl <;> rfl) rfl (by rfl) (putAll rfl)) (fun _ h => nomatch h) ?_
  refine WL.nil ?_
  refine WC.ret ?_
  repeat (with_reducible (first | refine peelT ?_ | refine peelB ?_ | refine peelTX ?_ | refine peelBX ?_ | refine peelBN ?_ | refine peelBO rfl ?_))
  exact retC1 (.inr rfl) Tryz.results21 ag40 rfl (by repeat constructor) rfl fun w' h => ⟨(), trivial, rfl, h.sub (by repeat' constructor)⟩
end Go.Proofs.YtcplbkbimpiioaaGreatDoor

namespace Go.Proofs.YtcplbkbimpiioaaGreatDoor
open Go Go.RowKit
theorem RdS.nil' {w : World} {T : Pm} : RdS w T (.slice none 0 0) 1 ([] : List Int).length (ints .u8 []) := fun w' _ => Rd.nil _ _
theorem mnW_t (m : Int) : mnW [] true m = true := by unfold mnW; rw [tkW_true]; rfl
theorem tlk_none (b : Nat) (a1 : Option Addr) (c1 : Nat) (r : Res) (hr : RdOf r (.slice a1 0 c1) 1 0 (ints .u8 [])) (most : Int) (w : World) (hw : OK w (fpL [inR b (.slice a1 0 c1) true, r]) [inR b (.slice a1 0 c1) true, r] w) :
    Fn Tryz.prog 40 [.pointer (some ⟨b, 0, none⟩), .int .i64 most, .func (.func 41) #[] #[]] [inR b (.slice a1 0 c1) true, r] w (fun x : Option Addr × Nat => RdOf r (.slice x.1 0 x.2) 1 0 (ints .u8 [])) (fun _ => .slice none 0 0) (fun x => [inR b (.slice x.1 0 x.2) true, r]) := by
  refine enterF Tryz.func40 rfl Tryz.ntmps40 rfl hw ?_
  refine WC.seq ?_
  refine WC.region ?_
  refine WL.y (Yl.assign rfl) rfl ?_
  refine WL.nil ?_
  refine WC.seq ?_
  refine WC.seq ?_
  refine WC.region ?_
  refine WL.y (Yl.move rfl) rfl ?_
  refine WL.y (Yl.nilNe un85 rfl rfl) rfl ?_
  refine WL.know (t := 10) (b' := true) rfl (by first | rfl | (simp; done) | (simp; omega)) ?_
  refine WL.y (Yl.move rfl) rfl ?_
  refine WL.on rfl rfl ?_
  refine WL.y (Yl.move rfl) rfl ?_
  refine WL.on rfl rfl ?_
  refine WL.y (Yl.eqlG rfl rfl (b := false) (fun w => by kernel_rfl)) rfl ?_
  refine WL.know (t := 13) (b' := false) rfl (by first | rfl | (simp; done) | (simp; omega)) ?_
  refine WL.y (Yl.pickT rfl rfl) rfl ?_
  refine WL.nil ?_
  refine WC.condF rfl (by first | rfl | (simp; done) | (simp; omega)) ?_
  refine WC.skip ?_
  refine WC.seq ?_
  refine WC.region ?_
  refine WL.y (Yl.assign rfl) rfl ?_
  refine WL.nil ?_
  refine WC.seq ?_
  refine WC.seq ?_
  refine WC.region ?_
  refine WL.y (Yl.move rfl) rfl ?_
  refine WL.y (Yl.move rfl) rfl ?_
  refine WL.callC (xs := [.tmp 18, .tmp 19]) (cap := []) rfl rfl en75 (by repeat' constructor) (fun w hw => inMany_any b a1 c1 [] true most r hr (Nat.zero_le _) (fun x h => nomatch h) w hw.left.here) rfl ?_
  rintro ⟨a2, c2⟩ ⟨r1, hc1⟩
  rw [mnW_t, if_pos rfl]
  dsimp only [tkB_true, List.length_nil, List.cons_append, List.nil_append] at r1 ⊢
  refine WL.y (Yl.assign rfl) rfl ?_
  refine WL.nil ?_
  refine WC.block ?_
  refine WC.loop (α := Unit) (fun _ => [(0, .pointer (some ⟨b, 0, none⟩)), (6, .slice none 0 0), (7, .slice none 0 0), (8, .int .i64 (-1))]) (fun _ => [inR b (.slice a2 0 c2) true, r]) (fun _ => True) (fun _ => 0) () trivial ⟨(by repeat' constructor), _, (by repeat' constructor)⟩ ?_
  rintro ⟨⟩ -
  refine WC.seq ?_
  refine WC.seq ?_
  refine WC.region ?_
  refine WL.y (Yl.move rfl) rfl ?_
  refine WL.y (Yl.gtr rfl rfl) rfl ?_
  refine WL.y (Yl.move rfl) rfl ?_
  refine WL.know (t := 23) (b' := false) rfl (by first | rfl | (simp; done) | (simp; omega)) ?_
  refine WL.off rfl rfl rfl rfl ?_
  refine WL.off rfl rfl rfl rfl ?_
  refine WL.off rfl rfl rfl rfl ?_
  refine WL.off rfl rfl rfl rfl ?_
  refine WL.off rfl rfl rfl rfl ?_
  refine WL.y (Yl.pickF rfl rfl) rfl ?_
  refine WL.nil ?_
  refine WC.condF rfl (by first | rfl | (simp; done) | (simp; omega)) ?_
  refine WC.exit ?_
  refine WC.seq ?_
  refine WC.seq ?_
  refine WC.region ?_
  refine WL.y (Yl.move rfl) rfl ?_
  refine WL.y (Yl.nilEq un85 rfl rfl) rfl ?_
  refine WL.y (Yl.move rfl) rfl ?_
  refine WL.know (t := 40) (b' := false) rfl (by first | rfl | (simp; done) | (simp; omega)) ?_
  refine WL.on rfl rfl ?_
  refine WL.y (Yl.move rfl) rfl ?_
  refine WL.on rfl rfl ?_
  refine WL.y (Yl.nilCheck rfl) rfl ?_
  refine WL.on rfl rfl ?_
  refine WL.y (Yl.field fo136_1 rfl) rfl ?_
  refine WL.on rfl rfl ?_
  refine WL.y (Yl.load on4 rfl (by repeat constructor) (by rfl)) rfl ?_
  refine WL.y (Yl.pickF rfl rfl) rfl ?_
  refine WL.know (t := 45) (b' := true) rfl (by first | rfl | (simp; done) | (simp; omega)) ?_
  refine WL.nil ?_
  refine WC.condT rfl (by first | rfl | (simp; done) | (simp; omega)) ?_
  refine WC.seq ?_
  refine WC.region ?_
  refine WL.y (Yl.assign rfl) rfl ?_
  refine WL.nil ?_
  refine WC.ret ?_
  repeat (with_reducible (first | refine peelT ?_ | refine peelB ?_ | refine peelTX ?_ | refine peelBX ?_ | refine peelBN ?_ | refine peelBO rfl ?_))
  exact ret1 (.inr rfl) Tryz.results40 rfl fun w' h => ⟨(a2, c2), r1, rfl, h.sub (by repeat' constructor)⟩
theorem tlo_none (b : Nat) (a1 : Option Addr) (c1 : Nat) (r : Res) (hr : RdOf r (.slice a1 0 c1) 1 0 (ints .u8 [])) (most : Int) (w : World) (hw : OK w (fpL [inR b (.slice a1 0 c1) true, r]) [inR b (.slice a1 0 c1) true, r] w) :
    Fn Tryz.prog 42 [.pointer (some ⟨b, 0, none⟩), .int .i64 most, .func (.func 43) #[] #[]] [inR b (.slice a1 0 c1) true, r] w (fun x : Option Addr × Nat => RdOf r (.slice x.1 0 x.2) 1 0 (ints .u8 [])) (fun _ => .slice none 0 0) (fun x => [inR b (.slice x.1 0 x.2) true, r]) := by
  refine enterF Tryz.func42 rfl Tryz.ntmps42 rfl hw ?_
  refine WC.seq ?_
  refine WC.region ?_
  refine WL.y (Yl.assign rfl) rfl ?_
  refine WL.nil ?_
  refine WC.seq ?_
  refine WC.seq ?_
  refine WC.region ?_
  refine WL.y (Yl.move rfl) rfl ?_
  refine WL.y (Yl.nilNe un85 rfl rfl) rfl ?_
  refine WL.know (t := 10) (b' := true) rfl (by first | rfl | (simp; done) | (simp; omega)) ?_
  refine WL.y (Yl.move rfl) rfl ?_
  refine WL.on rfl rfl ?_
  refine WL.y (Yl.move rfl) rfl ?_
  refine WL.on rfl rfl ?_
  refine WL.y (Yl.eqlG rfl rfl (b := false) (fun w => by kernel_rfl)) rfl ?_
  refine WL.know (t := 13) (b' := false) rfl (by first | rfl | (simp; done) | (simp; omega)) ?_
  refine WL.y (Yl.pickT rfl rfl) rfl ?_
  refine WL.nil ?_
  refine WC.condF rfl (by first | rfl | (simp; done) | (simp; omega)) ?_
  refine WC.skip ?_
  refine WC.seq ?_
  refine WC.region ?_
  refine WL.y (Yl.assign rfl) rfl ?_
  refine WL.nil ?_
  refine WC.seq ?_
  refine WC.seq ?_
  refine WC.region ?_
  refine WL.y (Yl.move rfl) rfl ?_
  refine WL.y (Yl.move rfl) rfl ?_
  refine WL.callC (xs := [.tmp 18, .tmp 19]) (cap := []) rfl rfl en75 (by repeat' constructor) (fun w hw => inMany_any b a1 c1 [] true most r hr (Nat.zero_le _) (fun x h => nomatch h) w hw.left.here) rfl ?_
  rintro ⟨a2, c2⟩ ⟨r1, hc1⟩
  rw [mnW_t, if_pos rfl]
  dsimp only [tkB_true, List.length_nil, List.cons_append, List.nil_append] at r1 ⊢
  refine WL.y (Yl.assign rfl) rfl ?_
  refine WL.nil ?_
  refine WC.block ?_
  refine WC.loop (α := Unit) (fun _ => [(0, .pointer (some ⟨b, 0, none⟩)), (6, .slice none 0 0), (7, .slice none 0 0), (8, .int .i64 (-1))]) (fun _ => [inR b (.slice a2 0 c2) true, r]) (fun _ => True) (fun _ => 0) () trivial ⟨(by repeat' constructor), _, (by repeat' constructor)⟩ ?_
  rintro ⟨⟩ -
  refine WC.seq ?_
  refine WC.seq ?_
  refine WC.region ?_
  refine WL.y (Yl.move rfl) rfl ?_
  refine WL.y (Yl.gtr rfl rfl) rfl ?_
  refine WL.y (Yl.move rfl) rfl ?_
  refine WL.know (t := 23) (b' := false) rfl (by first | rfl | (simp; done) | (simp; omega)) ?_
  refine WL.off rfl rfl rfl rfl ?_
  refine WL.off rfl rfl rfl rfl ?_
  refine WL.off rfl rfl rfl rfl ?_
  refine WL.off rfl rfl rfl rfl ?_
  refine WL.off rfl rfl rfl rfl ?_
  refine WL.y (Yl.pickF rfl rfl) rfl ?_
  refine WL.nil ?_
  refine WC.condF rfl (by first | rfl | (simp; done) | (simp; omega)) ?_
  refine WC.exit ?_
  refine WC.seq ?_
  refine WC.seq ?_
  refine WC.region ?_
  refine WL.y (Yl.move rfl) rfl ?_
  refine WL.y (Yl.nilEq un85 rfl rfl) rfl ?_
  refine WL.y (Yl.move rfl) rfl ?_
  refine WL.know (t := 40) (b' := false) rfl (by first | rfl | (simp; done) | (simp; omega)) ?_
  refine WL.on rfl rfl ?_
  refine WL.y (Yl.move rfl) rfl ?_
  refine WL.on rfl rfl ?_
  refine WL.y (Yl.nilCheck rfl) rfl ?_
  refine WL.on rfl rfl ?_
  refine WL.y (Yl.field fo136_1 rfl) rfl ?_
  refine WL.on rfl rfl ?_
  refine WL.y (Yl.load on4 rfl (by repeat constructor) (by rfl)) rfl ?_
  refine WL.y (Yl.pickF rfl rfl) rfl ?_
  refine WL.know (t := 45) (b' := true) rfl (by first | rfl | (simp; done) | (simp; omega)) ?_
  refine WL.nil ?_
  refine WC.condT rfl (by first | rfl | (simp; done) | (simp; omega)) ?_
  refine WC.seq ?_
  refine WC.region ?_
  refine WL.y (Yl.assign rfl) rfl ?_
  refine WL.nil ?_
  refine WC.ret ?_
  repeat (with_reducible (first | refine peelT ?_ | refine peelB ?_ | refine peelTX ?_ | refine peelBX ?_ | refine peelBN ?_ | refine peelBO rfl ?_))
  exact ret1 (.inr rfl) Tryz.results42 rfl fun w' h => ⟨(a2, c2), r1, rfl, h.sub (by repeat' constructor)⟩
set_option maxRecDepth 100000 in
theorem load_none (w : World) (hw : OK w (fpL []) [] w) : Fn Tryz.prog 17 [.slice none 0 0] [] w (fun _ : Unit => True) (fun _ => .tuple #[.pointer none, .int .i64 9]) (fun _ => []) := by
  refine enterF Tryz.func17 rfl Tryz.ntmps17 rfl hw ?_
  refine WC.seq ?_
  refine WC.region ?_
  refine WL.y (Yl.assign rfl) rfl ?_
  refine WL.y (Yl.assign rfl) rfl ?_
  refine WL.nil ?_
  refine WC.seq ?_
  refine WC.region ?_
  refine WL.y (Yl.move rfl) rfl ?_
  refine WL.callC (xs := [.tmp 16]) (cap := []) rfl rfl en38 (by repeat' constructor) (fun w hw => newIn_any (.slice none 0 0) [] (Nat.zero_le _) w (RdS.nil') hw.left.here) rfl ?_
  rintro ⟨b4, ao, cap⟩ hc
  dsimp only [List.cons_append, List.nil_append, List.length_nil] at hc ⊢
  refine WL.y (Yl.assign rfl) rfl ?_
  refine WL.nil ?_
  refine WC.seq ?_
  refine WC.region ?_
  refine WL.y (Yl.move rfl) rfl ?_
  refine WL.callC (xs := [.tmp 18]) (cap := []) rfl rfl en39 (by repeat' constructor) (fun w hw => inU8_any b4 ao cap [] false (ownR (.slice ao 0 cap) 5 1 0 (ints .u8 [])) RdOf.own (Nat.zero_le _) (fun x h => nomatch h) w hw.left.here) rfl ?_
  rintro ⟨a1, c1⟩ ⟨r1, hc1⟩
  have e1 : tkB 1 [] false = [] := rfl
  have e2 : tkW 1 [] false = true := rfl
  rw [e1, e2]
  rw [e1] at r1 hc1
  dsimp only [List.length_nil, List.cons_append, List.nil_append] at r1 ⊢
  refine WL.y (Yl.assign rfl) rfl ?_
  refine WL.nil ?_
  refine WC.seq ?_
  refine WC.region ?_
  refine WL.y (Yl.move rfl) rfl ?_
  refine WL.callC (xs := [.tmp 20, _, .func 41]) (cap := []) rfl rfl en40 (by repeat' constructor) (fun w hw => tlk_none b4 a1 c1 (ownR (.slice ao 0 cap) 5 1 0 (ints .u8 [])) r1 4 w hw.left.here) rfl ?_
  rintro ⟨a2, c2⟩ r2
  dsimp only [List.length_nil, List.cons_append, List.nil_append] at r2 ⊢
  refine WL.y (Yl.assign rfl) rfl ?_
  refine WL.nil ?_
  refine WC.seq ?_
  refine WC.region ?_
  refine WL.y (Yl.move rfl) rfl ?_
  refine WL.callC (xs := [.tmp 22, _, .func 43]) (cap := []) rfl rfl en42 (by repeat' constructor) (fun w hw => tlo_none b4 a2 c2 (ownR (.slice ao 0 cap) 5 1 0 (ints .u8 [])) r2 8 w hw.left.here) rfl ?_
  rintro ⟨a3, c3⟩ r3
  dsimp only [List.length_nil, List.cons_append, List.nil_append] at r3 ⊢
  refine WL.y (Yl.assign rfl) rfl ?_
  refine WL.nil ?_
  refine WC.seq ?_
  refine WC.seq ?_
  refine WC.region ?_
  refine WL.y (Yl.move rfl) rfl ?_
  refine WL.callC (xs := [.tmp 24]) (cap := []) rfl rfl en46 (by repeat' constructor) (fun w hw => inEnd_any b4 a3 c3 [] true w hw.left.here) rfl ?_
  rintro ⟨⟩ -
  refine WL.y (Yl.neq rfl rfl) rfl ?_
  refine WL.know (t := 26) (b' := true) rfl (by first | rfl | (simp; done) | (simp; omega)) ?_
  refine WL.nil ?_
  refine WC.condT rfl (by first | rfl | (simp; done) | (simp; omega)) ?_
  refine WC.seq ?_
  refine WC.region ?_
  refine WL.y (Yl.assign rfl) rfl ?_
  refine WL.y (Yl.assign rfl) rfl ?_
  refine WL.nil ?_
  refine WC.ret ?_
  repeat (with_reducible (first | refine peelT ?_ | refine peelB ?_ | refine peelTX ?_ | refine peelBX ?_ | refine peelBN ?_ | refine peelBO rfl ?_))
  exact ret2 (.inr rfl) Tryz.results17 rfl rfl fun w' h => ⟨(), trivial, rfl, h.sub (by repeat' constructor)⟩
end Go.Proofs.YtcplbkbimpiioaaGreatDoor

namespace Go.Proofs.YtcplbkbimpiioaaGreatDoor
open Go Go.RowKit
def chunk (bs : List Int) (i : Nat) : List Int := (bs.drop (5 * i)).take 5
def partN (n : Nat) : Nat := (n + 4) / 5
def partE (n i : Nat) : Nat := 5 * i + min 5 (n - 5 * i)
def partV (al : Option Addr) (n cl i : Nat) : Value := subS (.slice al n cl) (5 * i) (partE n i) (partE n i) 1
def partYs (al : Option Addr) (n cl : Nat) : List (Array Value) := (List.range (partN n)).map fun i => #[partV al n cl i]
theorem partYs_len (al : Option Addr) (n cl : Nat) : (partYs al n cl).length = partN n := by simp [partYs]
theorem partYs_get {al : Option Addr} {n cl i : Nat} (h : 5 * i < n) : (partYs al n cl)[i]? = some #[partV al n cl i] := by
  have : i < partN n := by unfold partN; omega
  simp [partYs, this]
theorem partYs_size {al : Option Addr} {n cl : Nat} : ∀ x ∈ partYs al n cl, x.size = 1 := by
  intro x hx
  obtain ⟨i, _, rfl⟩ := List.mem_map.1 hx
  rfl
theorem partYs_at {al : Option Addr} {n cl i : Nat} {x : Array Value} (h : (partYs al n cl)[i]? = some x) : 5 * i < n ∧ x = #[partV al n cl i] := by
  have hl := (List.getElem?_eq_some_iff.1 h).1
  rw [partYs_len] at hl
  have h2 : 5 * i < n := by unfold partN at hl; omega
  rw [partYs_get h2] at h
  exact ⟨h2, (Option.some.inj h).symm⟩
theorem chunk_min (bs : List Int) (i : Nat) : (chunk bs i).length = min 5 (bs.length - 5 * i) := by simp [chunk]
theorem Rd.sub3L {w : World} {size : Nat} {ao : Option Addr} {n cap : Nat} {cs : List Value} (r : Rd w size (.slice ao n cap) n cs) (l h : Nat) (h1 : l < h) (h2 : h ≤ n) :
    Rd w size (subS (.slice ao n cap) l h h size) (h - l) ((cs.drop (l * size)).take ((h - l) * size)) := by
  have s := r.sub l h (by omega) h2
  rcases r.2 with ⟨_, h0⟩ | ⟨a, cap', he, k1, k2, k3⟩
  · omega
  · cases he
    have e1 : subS (.slice (some a) n cap) l h cap size = .slice (some (a.add (l * size))) (h - l) (cap - l) := by
      unfold subS; dsimp only; rw [if_neg (by omega)]; rfl
    have e2 : subS (.slice (some a) n cap) l h h size = .slice (some (a.add (l * size))) (h - l) (h - l) := by
      unfold subS; dsimp only; rw [if_neg (by omega)]; rfl
    rw [e1] at s
    rw [e2]
    rcases s.2 with ⟨hq, _⟩ | ⟨a', c', hq, q1, q2, q3⟩
    · cases hq
    · cases hq
      exact ⟨s.1, .inr ⟨_, h - l, rfl, Nat.le_refl _, by omega, q3⟩⟩

/-! ### Parts of 43 -/
theorem RdOf.part {r : Res} {al : Option Addr} {cl i : Nat} {bs : List Int} (hx : RdOf r (.slice al bs.length cl) 1 bs.length (ints .u8 bs)) (h : 5 * i < bs.length) : RdOf r (partV al bs.length cl i) 1 (chunk bs i).length (ints .u8 (chunk bs i)) :=
  ⟨fun w hw => by
    have := (hx.rd w hw).sub3L (5 * i) (partE bs.length i) (by unfold partE; omega) (by unfold partE; omega)
    have e : partE bs.length i - 5 * i = (chunk bs i).length := by rw [chunk_min]; unfold partE; omega
    rw [e, Nat.mul_one, Nat.mul_one, ints_drop, ints_take] at this
    have e2 : (bs.drop (5 * i)).take (chunk bs i).length = chunk bs i := by
      unfold chunk; rw [List.length_take, List.take_eq_take_iff]; simp
    rw [e2] at this
    exact this⟩

/-! ### No id twice -/
def chA (b2 b3 : Nat) (v : Value) (bs : List Int) : List Res := [roR (blkR b2 54 [v]), roR (blkR b3 3 [.int .i64 5]), rdR v 1 bs.length (ints .u8 bs)]
theorem chunk1_iter (b2 b3 : Nat) (bs : List Int) (al : Option Addr) (cl : Nat) (hcl : bs.length ≤ cl) (hsz : bs.length ≤ 1000000) (w : World) (hA : OK w (fpL (chA b2 b3 (.slice al bs.length cl) bs)) (chA b2 b3 (.slice al bs.length cl) bs) w) :
    Iter Tryz.prog 71 ([.pointer (some ⟨b2, 0, none⟩), .pointer (some ⟨b3, 0, none⟩)] : List Value).toArray (fpL (chA b2 b3 (.slice al bs.length cl) bs)).rd (partYs al bs.length cl) w := by
  unfold chA at hA ⊢
  have hwr : ∀ r ∈ [roR (blkR b2 54 [.slice al bs.length cl]), roR (blkR b3 3 [.int .i64 5]), rdR (.slice al bs.length cl) 1 bs.length (ints .u8 bs)], ∀ k, ¬ r.wr k := by
    intro r hr k hk
    simp at hr
    rcases hr with rfl | rfl | rfl <;> exact hk
  have hln := partYs_len al bs.length cl
  refine iter_of Tryz.func71 rfl Tryz.ntmps71 rfl hA hwr ?_
  intro l W g gx T0 hy
  refine WC.seq ?_
  refine WC.region ?_
  refine WL.y (Yl.assign rfl) rfl ?_
  refine WL.nil ?_
  refine WC.block ?_
  refine WC.loop (α := Nat × (Nat → Prop)) (fun x => [(0, .func (.yield l) #[] #[]), (1, .pointer (some ⟨b2, 0, none⟩)), (2, .pointer (some ⟨b3, 0, none⟩)), (4, .int .i64 ((5 * x.1 : Nat) : Int))]) (fun x => [gstR g x.1 x.2, roR (blkR b2 54 [.slice al bs.length cl]), roR (blkR b3 3 [.int .i64 5]), rdR (.slice al bs.length cl) 1 bs.length (ints .u8 bs)]) (fun x => x.1 ≤ partN bs.length) (fun x => partN bs.length - x.1) (0, T0) (Nat.zero_le _) ⟨(by repeat' constructor), _, (by repeat' constructor)⟩ ?_
  rintro ⟨i, T⟩ hi
  dsimp only at hi ⊢
  unfold partN at hi
  refine WC.seq ?_
  refine WC.seq ?_
  refine WC.region ?_
  refine WL.y (Yl.move rfl) rfl ?_
  refine WL.y (Yl.loadRo on54 rfl (by repeat constructor) (by rfl)) rfl ?_
  refine WL.y (Yl.len un54 rfl) rfl ?_
  refine WL.y (Yl.lss rfl rfl) rfl ?_
  refine WL.nil ?_
  refine WC.condD rfl (fun g9 => ?_) (fun g9 => ?_)
  · refine WC.skip ?_
    refine WC.seq ?_
    refine WC.block ?_
    refine WC.seq ?_
    have hlt : 5 * i < bs.length := by omega
    refine WC.drawRead mixed (by kernel_rfl) ?_
    refine WH.y (Yl.loadRo on3 rfl (by repeat constructor) (by rfl)) rfl ?_
    refine WH.y (Yl.loadRo on54 rfl (by repeat constructor) (by rfl)) rfl ?_
    refine WH.y (Yl.move rfl) rfl ?_
    refine WH.y (Yl.slice (l := 5 * i) (h := bs.length) un54 sz5 rfl ⟨_, rfl⟩ rfl (by omega) hcl) rfl ?_
    refine WH.y (Yl.len un54 rfl) rfl ?_
    refine WH.y (Yl.min2 rfl rfl) rfl ?_
    refine WH.say (t := 18) (v' := .int .i64 ((min 5 (bs.length - 5 * i) : Nat) : Int)) rfl (by (refine congrArg _ ?_; split <;> omega)) ?_
    refine WH.y (Yl.assign rfl) rfl ?_
    refine WH.nil ?_
    refine WC.seq ?_
    refine WC.region ?_
    refine WL.y (Yl.move rfl) rfl ?_
    refine WL.y (Yl.loadRo on54 rfl (by repeat constructor) (by rfl)) rfl ?_
    refine WL.y (Yl.move rfl) rfl ?_
    refine WL.y (Yl.move rfl) rfl ?_
    refine WL.y (Yl.move rfl) rfl ?_
    refine WL.y (Yl.add rfl rfl (IntWalk.i64_in _ (by omega))) rfl ?_
    refine WL.say (t := 24) (v' := .int .i64 ((partE bs.length i : Nat) : Int)) rfl (by (unfold partE; refine congrArg _ ?_; omega)) ?_
    refine WL.y (Yl.move rfl) rfl ?_
    refine WL.y (Yl.move rfl) rfl ?_
    refine WL.y (Yl.add rfl rfl (IntWalk.i64_in _ (by omega))) rfl ?_
    refine WL.say (t := 27) (v' := .int .i64 ((partE bs.length i : Nat) : Int)) rfl (by (unfold partE; refine congrArg _ ?_; omega)) ?_
    refine WL.y (Yl.slice3L (l := 5 * i) (h := partE bs.length i) (m := partE bs.length i) un54 sz5 rfl rfl rfl rfl (by unfold partE; omega) (Nat.le_refl _) (by unfold partE; omega)) rfl ?_
    refine WL.yield (xs := [.tmp 28]) (i := i) hy rfl rfl (partYs_get hlt) (by repeat constructor) rfl ?_
    intro b29 T'
    refine WL.y (Yl.not rfl) rfl ?_
    refine WL.nil ?_
    refine WC.cond rfl (fun g30 => ?_) (fun g30 => ?_)
    · refine WC.ret ?_
      repeat (with_reducible (first | refine peelT ?_ | refine peelB ?_ | refine peelTX ?_ | refine peelBX ?_ | refine peelBN ?_ | refine peelBO rfl ?_))
      have hb : b29 = false := by simpa using g30
      subst hb
      simp only [Bool.false_eq_true, if_false]
      exact itStop (i := i) (.inr rfl) Tryz.results71 (by repeat constructor) (by rw [hln]; unfold partN; omega)
    · refine WC.skip ?_
      refine WC.region ?_
      refine WL.y (Yl.move rfl) rfl ?_
      refine WL.y (Yl.loadRo on3 rfl (by repeat constructor) (by rfl)) rfl ?_
      refine WL.y (Yl.add rfl rfl (IntWalk.i64_in _ (by omega))) rfl ?_
      refine WL.say (t := 12) (v' := .int .i64 ((5 * (i + 1) : Nat) : Int)) rfl (by (refine congrArg _ ?_; omega)) ?_
      refine WL.y (Yl.assign rfl) rfl ?_
      refine WL.nil ?_
      have hb : b29 = true := by simpa using g30
      subst hb
      simp only [if_true]
      exact ⟨rfl, (i + 1, T'), by dsimp only; unfold partN; omega, by dsimp only; unfold partN; omega, (by repeat' constructor), _, (by repeat' constructor)⟩
  · refine WC.exit ?_
    repeat (with_reducible (first | refine peelT ?_ | refine peelB ?_ | refine peelTX ?_ | refine peelBX ?_ | refine peelBN ?_ | refine peelBO rfl ?_))
    have hx : i = (partYs al bs.length cl).length := by rw [hln]; unfold partN; omega
    rw [← hx]
    exact itEnd (.inl rfl) Tryz.results71 (by repeat constructor)

theorem chunk_any (bs : List Int) (al : Option Addr) (cl : Nat) (hcl : bs.length ≤ cl) (hsz : bs.length ≤ 1000000) (w : World) (hw : OK w (fpL [rdR (.slice al bs.length cl) 1 bs.length (ints .u8 bs)]) [rdR (.slice al bs.length cl) 1 bs.length (ints .u8 bs)] w) :
    Fn Tryz.prog 35 [.slice al bs.length cl, .int .i64 5] [rdR (.slice al bs.length cl) 1 bs.length (ints .u8 bs)] w (fun _ : (Nat × Nat) × (Nat → Prop) => True) (fun y => .func (.func 71) #[] #[.pointer (some ⟨y.1.1, 0, none⟩), .pointer (some ⟨y.1.2, 0, none⟩)]) (fun y => [itR Tryz.prog 71 [.pointer (some ⟨y.1.1, 0, none⟩), .pointer (some ⟨y.1.2, 0, none⟩)] y.2 (partYs al bs.length cl)]) := by
  refine enterF Tryz.func35 rfl Tryz.ntmps35 rfl hw ?_
  refine WC.seq ?_
  refine WC.region ?_
  refine WL.to (To.box (cs := [.slice al bs.length cl]) rfl rfl) rfl ?_
  intro b2
  refine WL.to (To.box (cs := [.int .i64 5]) rfl rfl) rfl ?_
  intro b3
  refine WL.y (Yl.assign rfl) rfl ?_
  refine WL.nil ?_
  refine WC.seq ?_
  refine WC.seq ?_
  refine WC.region ?_
  refine WL.y (Yl.load on3 rfl (by repeat constructor) (by rfl)) rfl ?_
  refine WL.y (Yl.lss rfl rfl) rfl ?_
  refine WL.nil ?_
  refine WC.condF rfl (by first | rfl | (simp; done) | (simp; omega)) ?_
  refine WC.skip ?_
  refine WC.seq ?_
  refine WC.region ?_
  refine WL.y (Yl.makeFunc (xs := []) (ys := [.tmp 2, .tmp 3]) rfl rfl) rfl ?_
  refine WL.y (Yl.assign rfl) rfl ?_
  refine WL.nil ?_
  refine WC.ret ?_
  repeat (with_reducible (first | refine peelT ?_ | refine peelB ?_ | refine peelTX ?_ | refine peelBX ?_ | refine peelBN ?_ | refine peelBO rfl ?_))
  refine ret1 (.inr rfl) Tryz.results35 rfl fun w' hh => ⟨((b2, b3), (fpL (chA b2 b3 (.slice al bs.length cl) bs)).rd), trivial, rfl, ?_⟩
  have hA : OK w _ ([blkR b2 54 [.slice al bs.length cl], blkR b3 3 [.int .i64 5], rdR (.slice al bs.length cl) 1 bs.length (ints .u8 bs)] ++ []) w' := hh.sub (by repeat' constructor)
  exact hA.toIter (chunk1_iter b2 b3 bs al cl hcl hsz w' hA.freeze.here) (fun k hk => rd_freeze (A := [blkR b2 54 [.slice al bs.length cl], blkR b3 3 [.int .i64 5], rdR (.slice al bs.length cl) 1 bs.length (ints .u8 bs)]) hk)


/-- The parts. -/
def partsF (bs : List Int) (n : Nat) : List (List Int) := (List.range n).map (chunk bs)
def spacedF (bs : List Int) : List Int := if bs.length = 60 then joinB (partsF bs 12) else bs
theorem partsF_next (bs : List Int) (n : Nat) : partsF bs (n + 1) = partsF bs n ++ [chunk bs n] := by simp [partsF, List.range_succ]
theorem partsF_len (bs : List Int) (n : Nat) : (partsF bs n).length = n := by simp [partsF]
theorem parts_flat {bs : List Int} : ∀ {n : Nat}, (partsF bs n).flatten = bs.take (5 * n)
  | 0 => by simp [partsF]
  | n + 1 => by
    rw [partsF_next, List.flatten_append, parts_flat, List.flatten_singleton]
    unfold chunk
    rw [show 5 * (n + 1) = 5 * n + 5 by omega, List.take_add]
theorem bare_join : ∀ ls : List (List Int), bareF (joinB ls) = (ls.map bareF).flatten
  | [] => rfl
  | [x] => by simp [joinB]
  | x :: y :: l => by
    have ih := bare_join (y :: l)
    have e : bareF (x ++ 32 :: joinB (y :: l)) = bareF x ++ bareF (joinB (y :: l)) := by
      unfold bareF
      rw [List.filter_append, List.filter_cons_of_neg (by decide)]
    rw [joinB, e, ih, List.map_cons (l := y :: l), List.flatten_cons]
def NoB (bs : List Int) : Prop := ∀ x ∈ bs, x ≠ 32
theorem bare_of {bs : List Int} (h : NoB bs) : bareF bs = bs := List.filter_eq_self.2 fun x hx => decide_eq_true (h x hx)
theorem Dig.noB {bs : List Int} (h : Dig bs) : NoB bs := fun x hx => by have := h x hx; omega
theorem spaced_bare {bs : List Int} (h : NoB bs) : bareF (spacedF bs) = bs := by
  unfold spacedF
  split
  · rename_i h60
    rw [bare_join]
    have e : (partsF bs 12).map bareF = partsF bs 12 := by
      refine (List.map_congr_left fun p hp => ?_).trans (List.map_id _)
      obtain ⟨i, _, rfl⟩ := List.mem_map.1 hp
      exact bare_of fun x hx => h x (List.mem_of_mem_drop (List.mem_of_mem_take hx))
    rw [e, parts_flat, List.take_of_length_le (by omega)]
  · exact bare_of h
theorem chunk_by {bs : List Int} (h : Bytes bs) (i : Nat) : Bytes (chunk bs i) := (h.drop _).take _
theorem joinB_len : ∀ ls : List (List Int), (joinB ls).length ≤ (ls.map List.length).sum + ls.length
  | [] => Nat.le_refl _
  | [x] => by simp [joinB]
  | x :: y :: l => by
    have ih := joinB_len (y :: l)
    rw [joinB, List.length_append, List.length_cons]
    simp only [List.map_cons, List.sum_cons, List.length_cons] at ih ⊢
    omega
theorem parts_sum (bs : List Int) : ∀ n, ((partsF bs n).map List.length).sum ≤ 5 * n
  | 0 => Nat.le_refl _
  | n + 1 => by
    have ih := parts_sum bs n
    rw [partsF_next, List.map_append, List.sum_append]
    have : (chunk bs n).length ≤ 5 := by unfold chunk; rw [List.length_take]; omega
    simp only [List.map_cons, List.map_nil, List.sum_cons, List.sum_nil]
    omega
theorem joinB_by : ∀ {ls : List (List Int)}, (∀ l ∈ ls, Bytes l) → Bytes (joinB ls)
  | [], _ => fun x h => nomatch h
  | [x], h => h x (by simp)
  | x :: y :: l, h => by
    have ih := joinB_by (ls := y :: l) (fun z hz => h z (List.mem_cons_of_mem _ hz))
    rw [joinB]
    intro z hz
    rcases List.mem_append.1 hz with hz | hz
    · exact h x (by simp) z hz
    · rcases List.mem_cons.1 hz with rfl | hz
      · decide
      · exact ih z hz
theorem spacedF_by {bs : List Int} (h : Bytes bs) : Bytes (spacedF bs) := by
  unfold spacedF
  split
  · refine joinB_by fun l hl => ?_
    obtain ⟨i, _, rfl⟩ := List.mem_map.1 hl
    exact chunk_by h i
  · exact h
theorem spacedF_len (bs : List Int) : (spacedF bs).length ≤ bs.length + 72 := by
  unfold spacedF
  split
  · have h1 := joinB_len (partsF bs 12)
    have h2 := parts_sum bs 12
    rw [partsF_len] at h1
    omega
  · omega
abbrev stV (bs : List Int) : Value := .string (strOfNums bs)
set_option maxHeartbeats 1600000 in
set_option maxRecDepth 100000 in
theorem spaced_any (bs : List Int) (hB : Bytes bs) (hl : bs.length ≤ 1000000) (w : World) (hw : OK w (fpL []) [] w) :
    Fn Tryz.prog 14 [.string (strOfNums bs)] [] w (fun _ : Unit => True) (fun _ => .string (strOfNums (spacedF bs))) (fun _ => []) := by
  unfold spacedF
  refine enterM Tryz.func14 rfl Tryz.ntmps14 rfl hw ?_
  refine WC.seq ?_
  refine WC.region ?_
  refine WL.y (Yl.assign rfl) rfl ?_
  refine WL.nil ?_
  refine WC.seq ?_
  refine WC.seq ?_
  refine WC.region ?_
  refine WL.y (Yl.move rfl) rfl ?_
  refine WL.y (Yl.lenT un9 rfl) rfl ?_
  refine WL.y (Yl.neq rfl rfl) rfl ?_
  refine WL.nil ?_
  refine WC.condD rfl (fun g7 => ?_) (fun g7 => ?_)
  · refine WC.seq ?_
    refine WC.region ?_
    refine WL.y (Yl.move rfl) rfl ?_
    refine WL.y (Yl.assign rfl) rfl ?_
    refine WL.nil ?_
    refine WC.ret ?_
    repeat (with_reducible (first | refine peelT ?_ | refine peelB ?_ | refine peelTX ?_ | refine peelBX ?_ | refine peelBN ?_ | refine peelBO rfl ?_))
    have h0 : ¬ bs.length = 60 := by omega
    rw [if_neg h0]
    refine retM.of .nil ?_
    exact ret1 (.inr rfl) Tryz.results14 rfl fun w' h => ⟨(), trivial, rfl, h.sub (by repeat' constructor)⟩
  · refine WC.skip ?_
    refine WC.seq ?_
    have h60 : bs.length = 60 := by omega
    refine WC.region ?_
    refine WL.to (To.alloc (cs := [.slice none 0 0]) zr80 rfl) rfl ?_
    intro b3
    refine WL.nil ?_
    refine WC.seq ?_
    refine WC.seq ?_
    refine WC.region ?_
    refine WL.y (Yl.move rfl) rfl ?_
    refine WL.to (To.strBytes (ys := bs) un9 un54 un5 rfl hB (by unfold maxLen; omega)) rfl ?_
    rintro ⟨b10, c10⟩
    refine WL.viewX (α := Unit) (φ := fun _ => bs.length ≤ c10) (H' := fun _ => [rdR (.slice (some ⟨b10, 0, none⟩) bs.length c10) 1 bs.length (ints .u8 bs), blkR b3 80 [.slice none 0 0]]) (fun w h => ⟨(), by
      rcases (h.get (r := rdR (.slice (some ⟨b10, 0, none⟩) bs.length c10) 1 bs.length (ints .u8 bs)) .head : Rd _ _ _ _ _).2 with ⟨e, _⟩ | ⟨a, cap, e, h1, _⟩
      · cases e
      · cases e; exact h1, h⟩) ?_
    rintro ⟨⟩ hc10
    refine WL.view (fun w h => h.dup (r := rdR (.slice (some ⟨b10, 0, none⟩) bs.length c10) 1 bs.length (ints .u8 bs)) (by repeat constructor) (fun _ h => h)) ?_
    refine WL.callC (xs := [.tmp 10, _]) (cap := []) rfl rfl en35 (by repeat' constructor) (fun w hw => chunk_any bs (some ⟨b10, 0, none⟩) c10 hc10 hl w hw.left.here) rfl ?_
    rintro ⟨⟨b11, b12⟩, own⟩ -
    dsimp only [List.cons_append, List.nil_append]
    refine WL.nil ?_
    refine WC.block ?_
    refine WC.view (fun w h => h.addNil 9 1) ?_
    refine WC.range (α := Option Addr × Nat) (xs := partYs (some ⟨b10, 0, none⟩) bs.length c10) (fun i s => [blkR b3 80 [.slice s.1 i s.2], ownR (.slice s.1 i s.2) 9 1 i ((partsF bs i).map stV), rdR (.slice (some ⟨b10, 0, none⟩) bs.length c10) 1 bs.length (ints .u8 bs)]) (fun _ _ => True) (none, 0) rfl en71 partYs_size rfl (by repeat constructor) trivial (by repeat' constructor) ?_ ?_
    · rintro l i x ⟨ao, cap⟩ hx - W
      obtain ⟨hlt, rfl⟩ := partYs_at hx
      dsimp only
      have hnx := partsF_next bs i
      show WC _ _ _ ((12, partV (some ⟨b10, 0, none⟩) bs.length c10 i) :: _) _ _
      refine WC.region ?_
      refine WL.y (Yl.assign rfl) rfl ?_
      refine WL.nil ?_
      repeat (with_reducible (first | refine peelT ?_ | refine peelB ?_ | refine peelTX ?_ | refine peelBX ?_ | refine peelBN ?_ | refine peelBO rfl ?_))
      refine fun W2 => ?_
      refine WC.block ?_
      refine WC.region ?_
      refine WL.y (Yl.load on80 rfl (by repeat constructor) (by rfl)) rfl ?_
      refine WL.y (Yl.move rfl) rfl ?_
      refine WL.y (Yl.toStr (xs := chunk bs i) un54 un5 un9 rfl (Reads.of (r := rdR (.slice (some ⟨b10, 0, none⟩) bs.length c10) 1 bs.length (ints .u8 bs)) (RdOf.part RdOf.rd' hlt) (by repeat constructor))) rfl ?_
      refine WL.to (To.buildSlice (vs := [stV (chunk bs i)]) un80 zs9 rfl rfl (by simp [Value.cells]) (by decide) (by decide)) rfl ?_
      intro b16
      refine WL.to (To.append sl80 rfl rfl (by repeat constructor) (Reads.of (RdOf.blk (size := 1) (n := 1) (cs := flat [stV (chunk bs i)]) (cs' := [stV (chunk bs i)]) (Nat.le_refl _) (by unfold maxLen; omega) (by simp [flat, Value.cells]) (by simp [flat, Value.cells])) (by repeat constructor)) (fun v hv => by rw [List.mem_singleton] at hv; subst hv; rfl) (rfl : i + 1 = i + 1) (show (partsF bs i).map stV ++ [stV (chunk bs i)] = (partsF bs (i + 1)).map stV by rw [hnx, List.map_append]; rfl) (by unfold maxLen; omega) (by omega)) rfl ?_
      rintro ⟨⟨ao17, c17⟩, hc17⟩
      dsimp only at hc17 ⊢
      refine WL.sto (Sto.one sz80 rfl rfl (by repeat constructor) rfl (by rfl) (by rfl)) (fun _ h => nomatch h) ?_
      refine WL.nil ?_
      repeat (with_reducible (first | refine peelT ?_ | refine peelB ?_ | refine peelTX ?_ | refine peelBX ?_ | refine peelBN ?_ | refine peelBO rfl ?_))
      exact ⟨[blkR b3 80 [.slice ao17 (i + 1) c17], ownR (.slice ao17 (i + 1) c17) 9 1 (i + 1) ((partsF bs (i + 1)).map stV), rdR (.slice (some ⟨b10, 0, none⟩) bs.length c10) 1 bs.length (ints .u8 bs)], _, (by repeat' constructor), (ao17, c17), trivial, rfl⟩
    · rintro ⟨ao, cap⟩ D -
      rw [partYs_len, show partN bs.length = 12 by unfold partN; omega]
      dsimp only [List.cons_append, List.nil_append]
      refine WC.viewX (α := Unit) (φ := fun _ => ∃ q, ao = some q) (H' := fun _ => _) (fun w h => ⟨(), by
        obtain ⟨q, cc, e⟩ := sl_form (h.get (r := ownR (.slice ao 12 cap) 9 1 12 ((partsF bs 12).map stV)) (by repeat constructor)) (by omega)
        cases e; exact ⟨q, rfl⟩, h⟩) ?_
      rintro ⟨⟩ ⟨q, rfl⟩
      refine WC.seq ?_
      refine WC.region ?_
      refine WL.y (Yl.load on80 rfl (by repeat constructor) (by rfl)) rfl ?_
      refine WL.callC (xs := [.tmp 18, _]) (cap := []) rfl rfl en36 (by repeat' constructor) (fun w hw => join_any q cap (partsF bs 12) (by rw [partsF_len]; omega) (by have := joinB_len (partsF bs 12); have := parts_sum bs 12; rw [partsF_len] at *; omega) w (by rw [partsF_len]; exact hw.src (A := []) (r := ownR (.slice (some q) 12 cap) 9 1 12 ((partsF bs 12).map stV)) RdOf.own (by repeat constructor)) hw.left.here) rfl ?_
      rintro ⟨⟩ -
      refine WL.y (Yl.assign rfl) rfl ?_
      refine WL.nil ?_
      refine WC.ret ?_
      repeat (with_reducible (first | refine peelT ?_ | refine peelB ?_ | refine peelTX ?_ | refine peelBX ?_ | refine peelBN ?_ | refine peelBO rfl ?_))
      rw [if_pos h60]
      refine retM.of (.cons (by repeat constructor) .nil) ?_
      exact ret1 (.inr rfl) Tryz.results14 rfl fun w' h => ⟨(), trivial, rfl, h.sub (by repeat' constructor)⟩
end Go.Proofs.YtcplbkbimpiioaaGreatDoor

namespace Go.Proofs.YtcplbkbimpiioaaGreatDoor
open Go Go.RowKit
def k1 : Ky := kyOf 1 (by decide)
def k2 : Ky := kyOf 2 (by decide)
def k3 : Ky := kyOf 3 (by decide)
def ctK (k : Ky) (s : Int) : Ct := ⟨[k, Ky.zero, Ky.zero, Ky.zero], [true, false, false, false], s⟩
theorem kn1 (k : Ky) : learnC [] 1 0 k = [(1, ctK k 1)] := by
  unfold learnC learnT
  have h : (newCt.has.getD 0 false && decide (newCt.ks.getD 0 Ky.zero = k)) = false := rfl
  show [((1 : Int), _)] = _
  rfl
theorem kn_same : learnC [((1 : Int), ctK k2 2)] 1 0 k2 = [(1, ctK k2 2)] := by
  unfold learnC learnT
  have h : ctOf [((1 : Int), ctK k2 2)] 1 = ctK k2 2 := rfl
  rw [h]
  have e : ((ctK k2 2).has.getD 0 false && decide ((ctK k2 2).ks.getD 0 Ky.zero = k2)) = true := by decide
  simp only [e]
  rfl
theorem kn_other : learnC [((1 : Int), ctK k2 2)] 1 0 k3 = [(1, ctK k3 3)] := by
  unfold learnC learnT
  have h : ctOf [((1 : Int), ctK k2 2)] 1 = ctK k2 2 := rfl
  rw [h]
  have e : ((ctK k2 2).has.getD 0 false && decide ((ctK k2 2).ks.getD 0 Ky.zero = k3)) = false := by decide
  simp only [e]
  rfl
theorem kn_kys (k : Ky) (s : Int) : kysAt [((1 : Int), ctK k s)] 1 = [k] := rfl
theorem kn_st (k : Ky) (s : Int) : stOf [((1 : Int), ctK k s)] 1 = s := rfl
theorem kn_c1 (k : Ky) : chgT (ctOf [] 1) 0 k = false := rfl
theorem kn_c2 : chgT (ctOf [((1 : Int), ctK k2 2)] 1) 0 k2 = false := by decide
theorem kn_c3 : chgT (ctOf [((1 : Int), ctK k2 2)] 1) 0 k3 = true := by decide
theorem EG.nil : EG [] := ⟨fun _ h => (nomatch h), fun _ h => (nomatch h), List.Pairwise.nil⟩
theorem key_1 (w : World) (hw : OK w (fpL []) [] w) : Fn Tryz.prog 20 [.int .u8 1] [] w (fun _ : Unit => True) (fun _ => kyV k1) (fun _ => []) := key_any 1 (by decide) w hw
theorem key_2 (w : World) (hw : OK w (fpL []) [] w) : Fn Tryz.prog 20 [.int .u8 2] [] w (fun _ : Unit => True) (fun _ => kyV k2) (fun _ => []) := key_any 2 (by decide) w hw
theorem key_3 (w : World) (hw : OK w (fpL []) [] w) : Fn Tryz.prog 20 [.int .u8 3] [] w (fun _ : Unit => True) (fun _ => kyV k3) (fun _ => []) := key_any 3 (by decide) w hw
theorem learn_at (b : Nat) (ao : Option Addr) (cp mb : Nat) (acc : Int) (own : List Ky) (es : Es) (hE : EG es) (a : Int) (ha : 0 ≤ a ∧ a < 256) (i : Nat) (hi : i < 4) (k : Ky) (d : Int) (hd : d = (i : Int)) (hm : mayF acc a d = 0) (w : World) (hw : OK w (fpL (bkL b ao cp mb acc own es)) (bkL b ao cp mb acc own es) w) :
    Fn Tryz.prog 6 [.pointer (some ⟨b, 0, none⟩), .agg #[.int .u8 a, .int .u8 d], kyV k] (bkL b ao cp mb acc own es) w (fun es' : Es => pj es' = learnC (pj es) a i k ∧ EG es') (fun _ => .tuple #[.bool (chgT (ctOf (pj es) a) i k), .int .i64 0]) (fun es' => bkL b ao cp mb acc own es') := by
  subst hd
  exact learn_any b ao cp mb acc own es hE a ha i hi k hm w hw
set_option maxHeartbeats 3200000 in
set_option maxRecDepth 100000 in
theorem known_any (m : Int) (w : World) (hm : RdS w (fpL []) mxV 1 1 [.int .i64 m]) (hw : OK w (fpL []) [] w) : Fn Tryz.prog 4 [] [] w (fun _ : Unit => True) (fun _ => .bool true) (fun _ => []) := by
  have hown : (setK [k1]).length ≤ 12 := by have := setK_len [k1]; simp at this; omega
  obtain ⟨own, hown0⟩ : ∃ own, setK [k1] = own := ⟨_, rfl⟩
  rw [hown0] at hown
  obtain ⟨n, hn⟩ : ∃ n, numT 0 own 1 [k2] = n := ⟨_, rfl⟩
  have hnd : Dig n := by rw [← hn]; unfold numT; rw [if_neg (by decide)]; exact numF_dig (digF_dig _ _) (digF_dig _ _)
  have hnl : n.length = 60 := by rw [← hn]; unfold numT; rw [if_neg (by decide), numF_len, digF_len, digF_len]
  have hsb := spaced_bare hnd.noB
  have hsl := spacedF_len n
  obtain ⟨n3, hn3⟩ : ∃ n3, numT 0 own 1 [k3] = n3 := ⟨_, rfl⟩
  have hn3l : n3.length = 60 := by rw [← hn3]; unfold numT; rw [if_neg (by decide), numF_len, digF_len, digF_len]
  refine enterM Tryz.func4 rfl Tryz.ntmps4 rfl hw ?_
  refine WC.seq ?_
  refine WC.region ?_
  refine WL.to (To.alloc (cs := [.bool false]) zr4 rfl) rfl ?_
  intro b0
  refine WL.nil ?_
  refine WC.seq ?_
  refine WC.region ?_
  refine WL.callC (xs := [_]) (cap := []) rfl rfl en20 (by repeat' constructor) (fun w hw => key_1 w hw.left.here) rfl ?_
  rintro ⟨⟩ -
  refine WL.to (To.buildSlice (vs := [kyV k1]) un22 zs32 rfl rfl (fun v hv => by rw [List.mem_singleton] at hv; subst hv; unfold kyV; simp [Value.cells, Ky.clen]) (by decide) (by decide)) rfl ?_
  intro b24
  refine WL.callC (xs := [_, .tmp 24]) (cap := []) rfl rfl en5 (by repeat' constructor) (fun w hw => new_any 0 (.slice (some ⟨b24, 0, none⟩) 1 1) [k1] (by decide) (by decide) w (hw.src (A := []) (RdOf.blk (b := b24) (T := 32) (size := 32) (n := 1) (cs := flat [kyV k1]) (cs' := vcs kyV [k1]) (Nat.le_refl _) (by unfold maxLen; omega) (by simp [flat, kyV, Value.cells, Ky.clen]) (by rw [List.drop_zero, List.take_of_length_le (by simp [flat, kyV, Value.cells, Ky.clen])]; rfl)) (by repeat constructor)) hw.left.here) rfl ?_
  rintro ⟨b, ⟨ao, cp⟩, mb⟩ -
  rw [hown0]
  dsimp only [List.cons_append, List.nil_append]
  refine WL.y (Yl.move rfl) rfl ?_
  refine WL.y (Yl.extract rfl rfl) rfl ?_
  refine WL.y (Yl.extract rfl rfl) rfl ?_
  refine WL.y (Yl.assign rfl) rfl ?_
  refine WL.y (Yl.assign rfl) rfl ?_
  refine WL.nil ?_
  refine WC.seq ?_
  refine WC.seq ?_
  refine WC.region ?_
  refine WL.y (Yl.move rfl) rfl ?_
  refine WL.y (Yl.neq rfl rfl) rfl ?_
  refine WL.know (t := 29) (b' := false) rfl (by first | rfl | (simp; done) | (simp; omega)) ?_
  refine WL.y (Yl.move rfl) rfl ?_
  refine WL.on rfl rfl ?_
  refine WL.y (Yl.move rfl) rfl ?_
  refine WL.on rfl rfl ?_
  refine WL.y (Yl.nilEq un25 rfl rfl) rfl ?_
  refine WL.y (Yl.pickF rfl rfl) rfl ?_
  refine WL.know (t := 33) (b' := false) rfl (by first | rfl | (simp; done) | (simp; omega)) ?_
  refine WL.nil ?_
  refine WC.condF rfl (by first | rfl | (simp; done) | (simp; omega)) ?_
  refine WC.skip ?_
  refine WC.seq ?_
  refine WC.region ?_
  refine WL.y (Yl.move rfl) rfl ?_
  refine WL.callC (xs := [_, _]) (cap := []) rfl rfl en21 (by repeat' constructor) (fun w hw => dev_any 1 0 w hw.left.here) rfl ?_
  rintro ⟨⟩ -
  refine WL.callC (xs := [_]) (cap := []) rfl rfl en20 (by repeat' constructor) (fun w hw => key_2 w hw.left.here) rfl ?_
  rintro ⟨⟩ -
  refine WL.callC (xs := [.tmp 35, .tmp 36, .tmp 37]) (cap := []) rfl rfl en6 (by repeat' constructor) (fun w hw => learn_at b ao cp mb 0 own [] EG.nil 1 (by decide) 0 (by decide) k2 0 rfl (by decide) w hw.left.here) rfl ?_
  rintro es1 ⟨p1, E1⟩
  rw [show pj [] = [] from rfl, kn_c1]
  rw [show pj [] = [] from rfl, kn1] at p1
  dsimp only [List.cons_append, List.nil_append]
  refine WL.y (Yl.move rfl) rfl ?_
  refine WL.y (Yl.extract rfl rfl) rfl ?_
  refine WL.y (Yl.extract rfl rfl) rfl ?_
  refine WL.y (Yl.assign rfl) rfl ?_
  refine WL.y (Yl.assign rfl) rfl ?_
  refine WL.nil ?_
  refine WC.seq ?_
  refine WC.region ?_
  refine WL.y (Yl.move rfl) rfl ?_
  refine WL.callC (xs := [.tmp 42, _]) (cap := []) rfl rfl en12 (by repeat' constructor) (fun w hw => numB_any b ao cp mb 0 own hown es1 E1 1 (by decide) w hw.left.here) rfl ?_
  rintro ⟨⟩ -
  rw [p1, kn_kys, hn, show numE [k2] = 0 from rfl]
  dsimp only [List.cons_append, List.nil_append]
  refine WL.y (Yl.move rfl) rfl ?_
  refine WL.y (Yl.extract rfl rfl) rfl ?_
  refine WL.y (Yl.extract rfl rfl) rfl ?_
  refine WL.y (Yl.assign rfl) rfl ?_
  refine WL.y (Yl.assign rfl) rfl ?_
  refine WL.nil ?_
  refine WC.seq ?_
  refine WC.seq ?_
  refine WC.region ?_
  refine WL.y (Yl.move rfl) rfl ?_
  refine WL.y (Yl.neq rfl rfl) rfl ?_
  refine WL.know (t := 47) (b' := false) rfl (by first | rfl | (simp; done) | (simp; omega)) ?_
  refine WL.y (Yl.move rfl) rfl ?_
  refine WL.on rfl rfl ?_
  refine WL.y (Yl.move rfl) rfl ?_
  refine WL.on rfl rfl ?_
  refine WL.y (Yl.neq rfl rfl) rfl ?_
  refine WL.know (t := 50) (b' := false) rfl (by first | rfl | (simp; done) | (simp; omega)) ?_
  refine WL.y (Yl.pickF rfl rfl) rfl ?_
  refine WL.y (Yl.move rfl) rfl ?_
  refine WL.on rfl rfl ?_
  refine WL.y (Yl.move rfl) rfl ?_
  refine WL.on rfl rfl ?_
  refine WL.y (Yl.lenT un9 rfl) rfl ?_
  refine WL.on rfl rfl ?_
  refine WL.y (Yl.neq rfl rfl) rfl ?_
  refine WL.know (t := 55) (b' := false) rfl (by simp [hnl]) ?_
  refine WL.y (Yl.pickF rfl rfl) rfl ?_
  refine WL.y (Yl.move rfl) rfl ?_
  refine WL.on rfl rfl ?_
  refine WL.y (Yl.move rfl) rfl ?_
  refine WL.on rfl rfl ?_
  refine WL.callC (xs := [.tmp 58, _]) (cap := []) rfl rfl en22 (by repeat' constructor) (fun w hw => state_any b ao cp mb 0 own es1 E1 1 (by decide) w hw.left.here) rfl ?_
  rintro ⟨⟩ -
  rw [p1, kn_st]
  dsimp only [List.cons_append, List.nil_append]
  refine WL.on rfl rfl ?_
  refine WL.y (Yl.neq rfl rfl) rfl ?_
  refine WL.know (t := 60) (b' := false) rfl (by first | rfl | (simp; done) | (simp; omega)) ?_
  refine WL.y (Yl.pickF rfl rfl) rfl ?_
  refine WL.y (Yl.move rfl) rfl ?_
  refine WL.on rfl rfl ?_
  refine WL.y (Yl.move rfl) rfl ?_
  refine WL.on rfl rfl ?_
  refine WL.y (Yl.move rfl) rfl ?_
  refine WL.on rfl rfl ?_
  refine WL.callC (xs := [.tmp 64]) (cap := []) rfl rfl en14 (by repeat' constructor) (fun w hw => spaced_any n hnd.bytes (by rw [hnl]; decide) w hw.left.here) rfl ?_
  rintro ⟨⟩ -
  refine WL.on rfl rfl ?_
  refine WL.callC (xs := [.tmp 63, _, .tmp 65]) (cap := []) rfl rfl en10 (by repeat' constructor) (fun w hw => verify_any m b ao cp mb 0 own hown es1 E1 1 (by decide) (spacedF n) (spacedF_by hnd.bytes) (by omega) w (hw.srcS hm) hw.left.here) rfl ?_
  rintro es2 ⟨p2, E2⟩
  rw [p1, kn_kys, hn] at p2 ⊢
  rw [show verE [k2] (spacedF n) n = 0 by unfold verE; rw [if_neg (by decide), if_pos hsb]]
  rw [show verC [((1 : Int), ctK k2 1)] 1 (spacedF n) n = [(1, ctK k2 2)] by unfold verC; rw [kn_kys, if_neg (by decide), if_pos hsb]; rfl] at p2
  dsimp only [List.cons_append, List.nil_append]
  refine WL.on rfl rfl ?_
  refine WL.y (Yl.neq rfl rfl) rfl ?_
  refine WL.know (t := 67) (b' := false) rfl (by first | rfl | (simp; done) | (simp; omega)) ?_
  refine WL.y (Yl.pickF rfl rfl) rfl ?_
  refine WL.y (Yl.move rfl) rfl ?_
  refine WL.on rfl rfl ?_
  refine WL.y (Yl.move rfl) rfl ?_
  refine WL.on rfl rfl ?_
  refine WL.callC (xs := [.tmp 70, _]) (cap := []) rfl rfl en22 (by repeat' constructor) (fun w hw => state_any b ao cp mb 0 own es2 E2 1 (by decide) w hw.left.here) rfl ?_
  rintro ⟨⟩ -
  rw [p2, kn_st]
  dsimp only [List.cons_append, List.nil_append]
  refine WL.on rfl rfl ?_
  refine WL.y (Yl.neq rfl rfl) rfl ?_
  refine WL.know (t := 72) (b' := false) rfl (by first | rfl | (simp; done) | (simp; omega)) ?_
  refine WL.y (Yl.pickF rfl rfl) rfl ?_
  refine WL.nil ?_
  refine WC.condF rfl (by first | rfl | (simp; done) | (simp; omega)) ?_
  refine WC.skip ?_
  refine WC.seq ?_
  refine WC.region ?_
  refine WL.y (Yl.move rfl) rfl ?_
  refine WL.callC (xs := [_, _]) (cap := []) rfl rfl en21 (by repeat' constructor) (fun w hw => dev_any 1 0 w hw.left.here) rfl ?_
  rintro ⟨⟩ -
  refine WL.callC (xs := [_]) (cap := []) rfl rfl en20 (by repeat' constructor) (fun w hw => key_2 w hw.left.here) rfl ?_
  rintro ⟨⟩ -
  refine WL.callC (xs := [.tmp 75, .tmp 76, .tmp 77]) (cap := []) rfl rfl en6 (by repeat' constructor) (fun w hw => learn_at b ao cp mb 0 own es2 E2 1 (by decide) 0 (by decide) k2 0 rfl (by decide) w hw.left.here) rfl ?_
  rintro es3 ⟨p3, E3⟩
  rw [p2, kn_c2]
  rw [p2, kn_same] at p3
  dsimp only [List.cons_append, List.nil_append]
  refine WL.y (Yl.move rfl) rfl ?_
  refine WL.y (Yl.extract rfl rfl) rfl ?_
  refine WL.y (Yl.extract rfl rfl) rfl ?_
  refine WL.y (Yl.assign rfl) rfl ?_
  refine WL.y (Yl.assign rfl) rfl ?_
  refine WL.nil ?_
  refine WC.seq ?_
  refine WC.region ?_
  refine WL.y (Yl.move rfl) rfl ?_
  refine WL.callC (xs := [_, _]) (cap := []) rfl rfl en21 (by repeat' constructor) (fun w hw => dev_any 1 0 w hw.left.here) rfl ?_
  rintro ⟨⟩ -
  refine WL.callC (xs := [_]) (cap := []) rfl rfl en20 (by repeat' constructor) (fun w hw => key_3 w hw.left.here) rfl ?_
  rintro ⟨⟩ -
  refine WL.callC (xs := [.tmp 82, .tmp 83, .tmp 84]) (cap := []) rfl rfl en6 (by repeat' constructor) (fun w hw => learn_at b ao cp mb 0 own es3 E3 1 (by decide) 0 (by decide) k3 0 rfl (by decide) w hw.left.here) rfl ?_
  rintro es4 ⟨p4, E4⟩
  rw [p3, kn_c3]
  rw [p3, kn_other] at p4
  dsimp only [List.cons_append, List.nil_append]
  refine WL.y (Yl.move rfl) rfl ?_
  refine WL.y (Yl.extract rfl rfl) rfl ?_
  refine WL.y (Yl.extract rfl rfl) rfl ?_
  refine WL.y (Yl.assign rfl) rfl ?_
  refine WL.y (Yl.assign rfl) rfl ?_
  refine WL.nil ?_
  refine WC.seq ?_
  refine WC.seq ?_
  refine WC.region ?_
  refine WL.y (Yl.move rfl) rfl ?_
  refine WL.y (Yl.move rfl) rfl ?_
  refine WL.know (t := 89) (b' := false) rfl (by first | rfl | (simp; done) | (simp; omega)) ?_
  refine WL.on rfl rfl ?_
  refine WL.y (Yl.move rfl) rfl ?_
  refine WL.on rfl rfl ?_
  refine WL.y (Yl.not rfl) rfl ?_
  refine WL.y (Yl.pickF rfl rfl) rfl ?_
  refine WL.know (t := 92) (b' := false) rfl (by first | rfl | (simp; done) | (simp; omega)) ?_
  refine WL.y (Yl.move rfl) rfl ?_
  refine WL.on rfl rfl ?_
  refine WL.y (Yl.move rfl) rfl ?_
  refine WL.on rfl rfl ?_
  refine WL.callC (xs := [.tmp 94, _]) (cap := []) rfl rfl en22 (by repeat' constructor) (fun w hw => state_any b ao cp mb 0 own es4 E4 1 (by decide) w hw.left.here) rfl ?_
  rintro ⟨⟩ -
  rw [p4, kn_st]
  dsimp only [List.cons_append, List.nil_append]
  refine WL.on rfl rfl ?_
  refine WL.y (Yl.neq rfl rfl) rfl ?_
  refine WL.know (t := 96) (b' := false) rfl (by first | rfl | (simp; done) | (simp; omega)) ?_
  refine WL.y (Yl.pickF rfl rfl) rfl ?_
  refine WL.y (Yl.move rfl) rfl ?_
  refine WL.on rfl rfl ?_
  refine WL.y (Yl.move rfl) rfl ?_
  refine WL.on rfl rfl ?_
  refine WL.callC (xs := [.tmp 99, _, _]) (cap := []) rfl rfl en10 (by repeat' constructor) (fun w hw => verify_any m b ao cp mb 0 own hown es4 E4 1 (by decide) [] (fun x h => nomatch h) (by simp) w (hw.srcS hm) hw.left.here) rfl ?_
  rintro es5 ⟨p5, E5⟩
  rw [p4, kn_kys, hn3] at p5 ⊢
  have hne : ¬ bareF [] = n3 := fun e => by rw [← e] at hn3l; cases hn3l
  rw [show verE [k3] [] n3 = 6 by unfold verE; rw [if_neg (by decide), if_neg hne]]
  rw [show verC [((1 : Int), ctK k3 3)] 1 [] n3 = [(1, ctK k3 3)] by unfold verC; rw [kn_kys, if_neg (by decide), if_neg hne]] at p5
  dsimp only [List.cons_append, List.nil_append]
  refine WL.on rfl rfl ?_
  refine WL.y (Yl.neq rfl rfl) rfl ?_
  refine WL.know (t := 101) (b' := false) rfl (by first | rfl | (simp; done) | (simp; omega)) ?_
  refine WL.y (Yl.pickF rfl rfl) rfl ?_
  refine WL.y (Yl.move rfl) rfl ?_
  refine WL.on rfl rfl ?_
  refine WL.y (Yl.move rfl) rfl ?_
  refine WL.on rfl rfl ?_
  refine WL.callC (xs := [.tmp 104, _]) (cap := []) rfl rfl en15 (by repeat' constructor) (fun w hw => accept_any b ao cp mb 0 own es5 E5 1 (by decide) w hw.left.here) rfl ?_
  rintro es6 ⟨p6, E6⟩
  rw [p5, kn_st, if_pos rfl]
  rw [p5, kn_st, if_pos rfl] at p6
  rw [show setSt [((1 : Int), ctK k3 3)] 1 1 = [(1, ctK k3 1)] from rfl] at p6
  dsimp only [List.cons_append, List.nil_append]
  refine WL.on rfl rfl ?_
  refine WL.y (Yl.neq rfl rfl) rfl ?_
  refine WL.know (t := 106) (b' := false) rfl (by first | rfl | (simp; done) | (simp; omega)) ?_
  refine WL.y (Yl.pickF rfl rfl) rfl ?_
  refine WL.y (Yl.move rfl) rfl ?_
  refine WL.on rfl rfl ?_
  refine WL.y (Yl.move rfl) rfl ?_
  refine WL.on rfl rfl ?_
  refine WL.callC (xs := [.tmp 109, _]) (cap := []) rfl rfl en22 (by repeat' constructor) (fun w hw => state_any b ao cp mb 0 own es6 E6 1 (by decide) w hw.left.here) rfl ?_
  rintro ⟨⟩ -
  rw [p6, kn_st]
  dsimp only [List.cons_append, List.nil_append]
  refine WL.on rfl rfl ?_
  refine WL.y (Yl.neq rfl rfl) rfl ?_
  refine WL.know (t := 111) (b' := false) rfl (by first | rfl | (simp; done) | (simp; omega)) ?_
  refine WL.y (Yl.pickF rfl rfl) rfl ?_
  refine WL.nil ?_
  refine WC.condF rfl (by first | rfl | (simp; done) | (simp; omega)) ?_
  refine WC.skip ?_
  refine WC.seq ?_
  refine WC.region ?_
  refine WL.y (Yl.move rfl) rfl ?_
  refine WL.callC (xs := [.tmp 114, _]) (cap := []) rfl rfl en12 (by repeat' constructor) (fun w hw => numB_any b ao cp mb 0 own hown es6 E6 2 (by decide) w hw.left.here) rfl ?_
  rintro ⟨⟩ -
  rw [p6, show kysAt [((1 : Int), ctK k3 1)] 2 = [] from rfl, show numE [] = 4 from rfl]
  dsimp only [List.cons_append, List.nil_append]
  refine WL.y (Yl.move rfl) rfl ?_
  refine WL.y (Yl.extract rfl rfl) rfl ?_
  refine WL.y (Yl.extract rfl rfl) rfl ?_
  refine WL.y (Yl.assign rfl) rfl ?_
  refine WL.y (Yl.assign rfl) rfl ?_
  refine WL.nil ?_
  refine WC.seq ?_
  refine WC.region ?_
  refine WL.callC (xs := [_]) (cap := []) rfl rfl en20 (by repeat' constructor) (fun w hw => key_1 w hw.left.here) rfl ?_
  rintro ⟨⟩ -
  refine WL.to (To.buildSlice (vs := [kyV k1]) un22 zs32 rfl rfl (fun v hv => by rw [List.mem_singleton] at hv; subst hv; unfold kyV; simp [Value.cells, Ky.clen]) (by decide) (by decide)) rfl ?_
  intro b120
  refine WL.callC (xs := [_, .tmp 120]) (cap := []) rfl rfl en5 (by repeat' constructor) (fun w hw => new_bad 8 (.slice (some ⟨b120, 0, none⟩) 1 1) 1 (by decide) (some ⟨b120, 0, none⟩) 1 rfl w hw.left.here) rfl ?_
  rintro ⟨⟩ -
  refine WL.y (Yl.move rfl) rfl ?_
  refine WL.y (Yl.extract rfl rfl) rfl ?_
  refine WL.y (Yl.extract rfl rfl) rfl ?_
  refine WL.y (Yl.assign rfl) rfl ?_
  refine WL.y (Yl.assign rfl) rfl ?_
  refine WL.nil ?_
  refine WC.seq ?_
  refine WC.region ?_
  refine WL.callC (xs := [_]) (cap := []) rfl rfl en17 (by repeat' constructor) (fun w hw => load_none w hw.left.here) rfl ?_
  rintro ⟨⟩ -
  refine WL.y (Yl.move rfl) rfl ?_
  refine WL.y (Yl.extract rfl rfl) rfl ?_
  refine WL.y (Yl.extract rfl rfl) rfl ?_
  refine WL.y (Yl.assign rfl) rfl ?_
  refine WL.y (Yl.assign rfl) rfl ?_
  refine WL.nil ?_
  refine WC.seq ?_
  refine WC.region ?_
  refine WL.y (Yl.assign rfl) rfl ?_
  refine WL.nil ?_
  refine WC.seq ?_
  refine WC.region ?_
  refine WL.y (Yl.move rfl) rfl ?_
  refine WL.callC (xs := [_, _]) (cap := []) rfl rfl en21 (by repeat' constructor) (fun w hw => dev_any 1 0 w hw.left.here) rfl ?_
  rintro ⟨⟩ -
  refine WL.callC (xs := [_]) (cap := []) rfl rfl en20 (by repeat' constructor) (fun w hw => key_1 w hw.left.here) rfl ?_
  rintro ⟨⟩ -
  refine WL.callC (xs := [.tmp 129, .tmp 130, .tmp 131]) (cap := []) rfl rfl en6 (by repeat' constructor) (fun w hw => learn_nil (.agg #[.int .u8 1, .int .u8 0]) 1 0 rfl k1 w hw.left.here) rfl ?_
  rintro ⟨⟩ -
  refine WL.y (Yl.move rfl) rfl ?_
  refine WL.y (Yl.extract rfl rfl) rfl ?_
  refine WL.y (Yl.extract rfl rfl) rfl ?_
  refine WL.y (Yl.assign rfl) rfl ?_
  refine WL.y (Yl.assign rfl) rfl ?_
  refine WL.nil ?_
  refine WC.seq ?_
  refine WC.region ?_
  refine WL.y (Yl.move rfl) rfl ?_
  refine WL.callC (xs := [.tmp 136, _]) (cap := []) rfl rfl en12 (by repeat' constructor) (fun w hw => numB_nil 1 w hw.left.here) rfl ?_
  rintro ⟨⟩ -
  refine WL.y (Yl.move rfl) rfl ?_
  refine WL.y (Yl.extract rfl rfl) rfl ?_
  refine WL.y (Yl.extract rfl rfl) rfl ?_
  refine WL.y (Yl.assign rfl) rfl ?_
  refine WL.y (Yl.assign rfl) rfl ?_
  refine WL.nil ?_
  refine WC.seq ?_
  refine WC.seq ?_
  refine WC.region ?_
  refine WL.y (Yl.move rfl) rfl ?_
  refine WL.callC (xs := [.tmp 140, _]) (cap := []) rfl rfl en23 (by repeat' constructor) (fun w hw => keys_nil 1 w hw.left.here) rfl ?_
  rintro ⟨⟨c2, c3⟩, own2⟩ -
  refine WL.nil ?_
  refine WC.block ?_
  refine WC.range (α := Unit) (xs := []) (fun _ _ => [blkR b0 4 [.bool false]]) (fun _ _ => True) () rfl en58 (fun x hx => nomatch hx) rfl (by repeat constructor) trivial (by repeat' constructor) (fun l i x s hx => by simp at hx) ?_
  rintro _ D -
  dsimp only [List.cons_append, List.nil_append, List.length_nil]
  refine WC.seq ?_
  refine WC.region ?_
  refine WL.y (Yl.move rfl) rfl ?_
  refine WL.y (Yl.eql rfl rfl) rfl ?_
  refine WL.y (Yl.move rfl) rfl ?_
  refine WL.know (t := 146) (b' := true) rfl (by first | rfl | (simp; done) | (simp; omega)) ?_
  refine WL.on rfl rfl ?_
  refine WL.y (Yl.move rfl) rfl ?_
  refine WL.on rfl rfl ?_
  refine WL.y (Yl.eql rfl rfl) rfl ?_
  refine WL.y (Yl.pickT rfl rfl) rfl ?_
  refine WL.y (Yl.move rfl) rfl ?_
  refine WL.know (t := 150) (b' := true) rfl (by first | rfl | (simp; done) | (simp; omega)) ?_
  refine WL.on rfl rfl ?_
  refine WL.y (Yl.move rfl) rfl ?_
  refine WL.on rfl rfl ?_
  refine WL.y (Yl.eql rfl rfl) rfl ?_
  refine WL.y (Yl.pickT rfl rfl) rfl ?_
  refine WL.y (Yl.move rfl) rfl ?_
  refine WL.know (t := 154) (b' := true) rfl (by first | rfl | (simp; done) | (simp; omega)) ?_
  refine WL.on rfl rfl ?_
  refine WL.y (Yl.move rfl) rfl ?_
  refine WL.on rfl rfl ?_
  refine WL.y (Yl.eql rfl rfl) rfl ?_
  refine WL.y (Yl.pickT rfl rfl) rfl ?_
  refine WL.y (Yl.move rfl) rfl ?_
  refine WL.know (t := 158) (b' := true) rfl (by first | rfl | (simp; done) | (simp; omega)) ?_
  refine WL.on rfl rfl ?_
  refine WL.y (Yl.move rfl) rfl ?_
  refine WL.on rfl rfl ?_
  refine WL.y (Yl.eql rfl rfl) rfl ?_
  refine WL.y (Yl.pickT rfl rfl) rfl ?_
  refine WL.y (Yl.move rfl) rfl ?_
  refine WL.know (t := 162) (b' := true) rfl (by first | rfl | (simp; done) | (simp; omega)) ?_
  refine WL.on rfl rfl ?_
  refine WL.y (Yl.move rfl) rfl ?_
  refine WL.on rfl rfl ?_
  refine WL.callC (xs := [_, _]) (cap := []) rfl rfl en21 (by repeat' constructor) (fun w hw => dev_any 1 0 w hw.left.here) rfl ?_
  rintro ⟨⟩ -
  refine WL.on rfl rfl ?_
  refine WL.callC (xs := [.tmp 163, .tmp 164]) (cap := []) rfl rfl en8 (by repeat' constructor) (fun w hw => forget_nil (.agg #[.int .u8 1, .int .u8 0]) 1 0 rfl w hw.left.here) rfl ?_
  rintro ⟨⟩ -
  refine WL.on rfl rfl ?_
  refine WL.y (Yl.eql rfl rfl) rfl ?_
  refine WL.y (Yl.pickT rfl rfl) rfl ?_
  refine WL.y (Yl.move rfl) rfl ?_
  refine WL.know (t := 168) (b' := true) rfl (by first | rfl | (simp; done) | (simp; omega)) ?_
  refine WL.on rfl rfl ?_
  refine WL.y (Yl.move rfl) rfl ?_
  refine WL.on rfl rfl ?_
  refine WL.callC (xs := [.tmp 169, _, _]) (cap := []) rfl rfl en10 (by repeat' constructor) (fun w hw => verify_nil 1 (.string ⟨#[]⟩) rfl w hw.left.here) rfl ?_
  rintro ⟨⟩ -
  refine WL.on rfl rfl ?_
  refine WL.y (Yl.eql rfl rfl) rfl ?_
  refine WL.y (Yl.pickT rfl rfl) rfl ?_
  refine WL.y (Yl.move rfl) rfl ?_
  refine WL.know (t := 173) (b' := true) rfl (by first | rfl | (simp; done) | (simp; omega)) ?_
  refine WL.on rfl rfl ?_
  refine WL.y (Yl.move rfl) rfl ?_
  refine WL.on rfl rfl ?_
  refine WL.callC (xs := [.tmp 174, _]) (cap := []) rfl rfl en15 (by repeat' constructor) (fun w hw => accept_nil 1 w hw.left.here) rfl ?_
  rintro ⟨⟩ -
  refine WL.on rfl rfl ?_
  refine WL.y (Yl.eql rfl rfl) rfl ?_
  refine WL.y (Yl.pickT rfl rfl) rfl ?_
  refine WL.y (Yl.move rfl) rfl ?_
  refine WL.know (t := 178) (b' := true) rfl (by first | rfl | (simp; done) | (simp; omega)) ?_
  refine WL.on rfl rfl ?_
  refine WL.y (Yl.move rfl) rfl ?_
  refine WL.on rfl rfl ?_
  refine WL.callC (xs := [.tmp 179, _]) (cap := []) rfl rfl en22 (by repeat' constructor) (fun w hw => state_nil 1 w hw.left.here) rfl ?_
  rintro ⟨⟩ -
  refine WL.on rfl rfl ?_
  refine WL.y (Yl.eql rfl rfl) rfl ?_
  refine WL.y (Yl.pickT rfl rfl) rfl ?_
  refine WL.y (Yl.move rfl) rfl ?_
  refine WL.know (t := 183) (b' := true) rfl (by first | rfl | (simp; done) | (simp; omega)) ?_
  refine WL.on rfl rfl ?_
  refine WL.y (Yl.move rfl) rfl ?_
  refine WL.on rfl rfl ?_
  refine WL.callC (xs := [.tmp 184]) (cap := []) rfl rfl en18 (by repeat' constructor) (fun w hw => bytes_nil w hw.left.here) rfl ?_
  rintro ⟨⟩ -
  refine WL.on rfl rfl ?_
  refine WL.y (Yl.len un54 rfl) rfl ?_
  refine WL.on rfl rfl ?_
  refine WL.y (Yl.eql rfl rfl) rfl ?_
  refine WL.y (Yl.pickT rfl rfl) rfl ?_
  refine WL.know (t := 188) (b' := true) rfl (by first | rfl | (simp; done) | (simp; omega)) ?_
  refine WL.sto (Sto.one sz4 rfl rfl (by repeat constructor) rfl (by rfl) (by rfl)) (fun _ h => nomatch h) ?_
  refine WL.nil ?_
  refine WC.ret ?_
  repeat (with_reducible (first | refine peelT ?_ | refine peelB ?_ | refine peelTX ?_ | refine peelBX ?_ | refine peelBN ?_ | refine peelBO rfl ?_))
  refine retM.of (.cons (by repeat constructor) .nil) ?_
  exact retV1 (.inr rfl) Tryz.results4 on4 rfl (by repeat constructor) fun w' h => ⟨(), trivial, rfl, h.sub (by repeat' constructor)⟩
end Go.Proofs.YtcplbkbimpiioaaGreatDoor
