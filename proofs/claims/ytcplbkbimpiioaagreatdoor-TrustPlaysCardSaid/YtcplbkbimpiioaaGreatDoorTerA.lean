/- strings.Builder: the walks. -/
import Derived.Test.YtcplbkbimpiioaaGreatDoorFacts
import Derived.Test.YtcplbkbimpiioaaGreatDoorLibSt
namespace Go.Proofs.YtcplbkbimpiioaaGreatDoor
open Go Go.RowKit
theorem some_of_sz {α β : Type} {o : Option α} {f : α → β} {y : β} (h : o.map f = some y) : o.isSome = true := by
  cases o with
  | none => cases h
  | some x => rfl
theorem cellsU8 : Nat.beq (Tryz.prog.cellsOf 5) 1 = true := by kernel_rfl
theorem liesBl : liesAt Tryz.prog Tryz.prog.depth 121 (2 / Tryz.prog.cellsOf 121) 0 121 1 = true := by kernel_rfl
theorem ext_noE (x : Value) (w : World) : (callFunc 119 #[x]).run Tryz.prog w = .ok (.value x) w := by
  rw [run_callFunc_extern (e := Extern.AbiNoEscape.same) Tryz.func119 (by kernel_rfl) (by kernel_rfl) (by kernel_rfl) (by kernel_rfl), Go.Lib.run_noEscape]
  rfl
/-- A builder, written to or not. -/
def bdP (b : Nat) (u : Bool) : Value := .pointer (if u then some ⟨b, 0, none⟩ else none)
abbrev bdR (b : Nat) (u : Bool) (x : Option Addr × Nat) (bs : List Int) : List Res := [blkR b 121 [bdP b u, .slice x.1 bs.length x.2], ownR (.slice x.1 bs.length x.2) 5 1 bs.length (ints .u8 bs)]
theorem chk_no (b : Nat) (v : Value) (w : World) (hw : OK w (fpL [blkR b 121 [.pointer none, v]]) [blkR b 121 [.pointer none, v]] w) :
    Fn Tryz.prog 89 [.pointer (some ⟨b, 0, none⟩)] [blkR b 121 [.pointer none, v]] w (fun _ : Unit => True) (fun _ => .tuple #[]) (fun _ => [blkR b 121 [.pointer (some ⟨b, 0, none⟩), v]]) := by
  have up : Tryz.prog.underlying 182 = some .unsafePointer := by kernel_rfl
  refine enterF Tryz.func89 rfl Tryz.ntmps89 rfl hw ?_
  refine WC.seq ?_
  refine WC.region ?_
  refine WL.y (Yl.move rfl) rfl ?_
  refine WL.y (Yl.nilCheck rfl) rfl ?_
  refine WL.y (Yl.field fo121_0 rfl) rfl ?_
  refine WL.y (Yl.load on119 rfl (by repeat constructor) (by rfl)) rfl ?_
  refine WL.y (Yl.nilEq un119 rfl rfl) rfl ?_
  refine WL.know (t := 6) (b' := true) rfl (by first | rfl | (simp; done) | (simp; omega)) ?_
  refine WL.nil ?_
  refine WC.condT rfl (by first | rfl | (simp; done) | (simp; omega)) ?_
  refine WC.region ?_
  refine WL.y (Yl.move rfl) rfl ?_
  refine WL.y (Yl.move rfl) rfl ?_
  refine WL.y (Yl.toUnsafe (T := 121) (cs := [.pointer none, v]) un119 up sz121 (by decide) rfl (by repeat constructor) (Nat.zero_lt_succ _)) rfl ?_
  refine WL.y (Yl.callExt (xs := [.tmp 9]) rfl rfl (fun w hw => ext_noE _ w)) rfl ?_
  refine WL.y (Yl.fromUnsafe (T := 121) (cs := [.pointer none, v]) up un119 (some_of_sz sz121) rfl (by repeat constructor) liesBl) rfl ?_
  refine WL.y (Yl.nilCheck rfl) rfl ?_
  refine WL.y (Yl.field fo121_0 rfl) rfl ?_
  refine WL.sto (Sto.one sz119 rfl rfl (by repeat constructor) rfl (by rfl) (by rfl)) (fun _ h => nomatch h) ?_
  refine WL.nil ?_
  repeat (with_reducible (first | refine peelT ?_ | refine peelB ?_ | refine peelTX ?_ | refine peelBX ?_ | refine peelBN ?_ | refine peelBO rfl ?_))
  exact ret0 (.inl rfl) Tryz.results89 fun w' h => ⟨(), trivial, rfl, h.sub (by repeat' constructor)⟩
theorem chk_yes (b : Nat) (v : Value) (w : World) (hw : OK w (fpL [blkR b 121 [.pointer (some ⟨b, 0, none⟩), v]]) [blkR b 121 [.pointer (some ⟨b, 0, none⟩), v]] w) :
    Fn Tryz.prog 89 [.pointer (some ⟨b, 0, none⟩)] [blkR b 121 [.pointer (some ⟨b, 0, none⟩), v]] w (fun _ : Unit => True) (fun _ => .tuple #[]) (fun _ => [blkR b 121 [.pointer (some ⟨b, 0, none⟩), v]]) := by
  refine enterF Tryz.func89 rfl Tryz.ntmps89 rfl hw ?_
  refine WC.seq ?_
  refine WC.region ?_
  refine WL.y (Yl.move rfl) rfl ?_
  refine WL.y (Yl.nilCheck rfl) rfl ?_
  refine WL.y (Yl.field fo121_0 rfl) rfl ?_
  refine WL.y (Yl.load on119 rfl (by repeat constructor) (by rfl)) rfl ?_
  refine WL.y (Yl.nilEq un119 rfl rfl) rfl ?_
  refine WL.know (t := 6) (b' := false) rfl (by first | rfl | (simp; done) | (simp; omega)) ?_
  refine WL.nil ?_
  refine WC.condF rfl (by first | rfl | (simp; done) | (simp; omega)) ?_
  refine WC.seq ?_
  refine WC.region ?_
  refine WL.y (Yl.move rfl) rfl ?_
  refine WL.y (Yl.nilCheck rfl) rfl ?_
  refine WL.y (Yl.field fo121_0 rfl) rfl ?_
  refine WL.y (Yl.load on119 rfl (by repeat constructor) (by rfl)) rfl ?_
  refine WL.y (Yl.move rfl) rfl ?_
  refine WL.y (Yl.nePtr un119 (some_of_sz sz121) rfl rfl) rfl ?_
  refine WL.know (t := 19) (b' := false) rfl (by first | rfl | (simp; done) | (simp; omega)) ?_
  refine WL.nil ?_
  refine WC.condF rfl (by first | rfl | (simp; done) | (simp; omega)) ?_
  refine WC.skip ?_
  repeat (with_reducible (first | refine peelT ?_ | refine peelB ?_ | refine peelTX ?_ | refine peelBX ?_ | refine peelBN ?_ | refine peelBO rfl ?_))
  exact ret0 (.inl rfl) Tryz.results89 fun w' h => ⟨(), trivial, rfl, h.sub (by repeat' constructor)⟩
theorem chk_any (b : Nat) (u : Bool) (v : Value) (w : World) (hw : OK w (fpL [blkR b 121 [bdP b u, v]]) [blkR b 121 [bdP b u, v]] w) :
    Fn Tryz.prog 89 [.pointer (some ⟨b, 0, none⟩)] [blkR b 121 [bdP b u, v]] w (fun _ : Unit => True) (fun _ => .tuple #[]) (fun _ => [blkR b 121 [bdP b true, v]]) := by
  cases u with
  | false => exact chk_no b v w hw
  | true => exact chk_yes b v w hw
theorem wb_any (b : Nat) (u : Bool) (x : Option Addr × Nat) (bs : List Int) (y : Int) (hl : bs.length ≤ 1000000000) (w : World) (hw : OK w (fpL (bdR b u x bs)) (bdR b u x bs) w) :
    Fn Tryz.prog 65 [.pointer (some ⟨b, 0, none⟩), .int .u8 y] (bdR b u x bs) w (fun _ : Option Addr × Nat => True) (fun _ => .nilIface) (fun z => bdR b true z (bs ++ [y])) := by
  refine enterF Tryz.func65 rfl Tryz.ntmps65 rfl hw ?_
  refine WC.seq ?_
  refine WC.region ?_
  refine WL.y (Yl.assign rfl) rfl ?_
  refine WL.nil ?_
  refine WC.seq ?_
  refine WC.region ?_
  refine WL.y (Yl.move rfl) rfl ?_
  refine WL.callC (xs := [.tmp 5]) (cap := []) rfl rfl en89 (by repeat' constructor) (fun w hw => chk_any b u (.slice x.1 bs.length x.2) w hw.left.here) rfl ?_
  rintro ⟨⟩ -
  dsimp only [List.cons_append, List.nil_append]
  refine WL.nil ?_
  refine WC.seq ?_
  refine WC.region ?_
  refine WL.y (Yl.move rfl) rfl ?_
  refine WL.y (Yl.move rfl) rfl ?_
  refine WL.y (Yl.nilCheck rfl) rfl ?_
  refine WL.y (Yl.field fo121_1 rfl) rfl ?_
  refine WL.y (Yl.load on54 rfl (by repeat constructor) (by rfl)) rfl ?_
  refine WL.y (Yl.move rfl) rfl ?_
  refine WL.to (To.buildSlice (vs := [.int .u8 y]) un54 zs5 rfl rfl (by simp [Value.cells]) (by decide) (by decide)) rfl ?_
  intro b13
  refine WL.to (To.append sl54 rfl rfl (by repeat constructor) (Reads.of (RdOf.blk (size := 1) (n := 1) (cs := ints .u8 [y]) (cs' := ints .u8 [y]) (Nat.le_refl _) (by unfold maxLen; omega) (by simp [ints]) rfl) (by repeat constructor)) (ints_one _ _) (show bs.length + 1 = (bs ++ [y]).length by simp) (show ints .u8 bs ++ ints .u8 [y] = ints .u8 (bs ++ [y]) by rw [ints_append]) (by simp; unfold maxLen; omega) (by simp; omega)) rfl ?_
  rintro ⟨⟨ao14, c14⟩, hc14⟩
  dsimp only at hc14 ⊢
  refine WL.y (Yl.nilCheck rfl) rfl ?_
  refine WL.y (Yl.field fo121_1 rfl) rfl ?_
  refine WL.sto (Sto.one sz54 rfl rfl (by repeat constructor) rfl (by rfl) (by rfl)) (fun _ h => nomatch h) ?_
  refine WL.nil ?_
  refine WC.seq ?_
  refine WC.region ?_
  refine WL.y (Yl.assign rfl) rfl ?_
  refine WL.nil ?_
  refine WC.ret ?_
  repeat (with_reducible (first | refine peelT ?_ | refine peelB ?_ | refine peelTX ?_ | refine peelBX ?_ | refine peelBN ?_ | refine peelBO rfl ?_))
  exact ret1 (.inr rfl) Tryz.results65 rfl fun w' h => ⟨(ao14, c14), trivial, rfl, h.sub (by repeat' constructor)⟩
set_option maxRecDepth 100000 in
theorem str_any (b : Nat) (x : Option Addr × Nat) (bs : List Int) (hB : Bytes bs) (h0 : 0 < bs.length) (w : World) (hw : OK w (fpL (bdR b true x bs)) (bdR b true x bs) w) :
    Fn Tryz.prog 66 [.pointer (some ⟨b, 0, none⟩)] (bdR b true x bs) w (fun _ : Unit => True) (fun _ => .string (strOfNums bs)) (fun _ => []) := by
  obtain ⟨xa, xc⟩ := x
  have hs : Sown w 5 1 (.slice xa bs.length xc) bs.length (ints .u8 bs) := hw.get (.tail .head)
  obtain ⟨a, rfl, hc⟩ : ∃ a, xa = some a ∧ a.spot = none ∧ bs.length ≤ xc := by
    rcases hs.2 with ⟨h, h2⟩ | ⟨g, o, cap, cur, h, _, h3, _⟩
    · omega
    · cases h; exact ⟨_, rfl, rfl, h3⟩
  obtain ⟨ab, aof, asp⟩ := a
  obtain ⟨rfl, hc⟩ := hc
  refine enterF Tryz.func66 rfl Tryz.ntmps66 rfl hw ?_
  refine WC.seq ?_
  refine WC.region ?_
  refine WL.y (Yl.assign rfl) rfl ?_
  refine WL.nil ?_
  refine WC.seq ?_
  refine WC.drawAny (Hs := [blkR b 121 [bdP b true, .slice (some ⟨ab, aof, none⟩) bs.length xc]]) mixed (by kernel_rfl) ⟨_, (by repeat' constructor)⟩ ?_
  refine WD.tk 0 rfl (by kernel_rfl) rfl rfl (Yl.move rfl) rfl ?_
  refine WD.tk 1 rfl (by kernel_rfl) rfl rfl (Yl.nilCheck rfl) rfl ?_
  refine WD.tk 2 rfl (by kernel_rfl) rfl rfl (Yl.field fo121_1 rfl) rfl ?_
  refine WD.tk 3 rfl (by kernel_rfl) rfl rfl (Yl.load on54 rfl (by repeat constructor) (by rfl)) rfl ?_
  refine WD.tk 5 rfl (by kernel_rfl) rfl rfl (Yl.move rfl) rfl ?_
  refine WD.tk 6 rfl (by kernel_rfl) rfl rfl (Yl.nilCheck rfl) rfl ?_
  refine WD.tk 7 rfl (by kernel_rfl) rfl rfl (Yl.field fo121_1 rfl) rfl ?_
  refine WD.tk 8 rfl (by kernel_rfl) rfl rfl (Yl.load on54 rfl (by repeat constructor) (by rfl)) rfl ?_
  refine WD.tk 9 rfl (by kernel_rfl) rfl rfl (Yl.len un54 rfl) rfl ?_
  refine WD.one 4 (by kernel_rfl) ?_
  refine WO.y rfl rfl .no (Yl.sliceData rfl (by omega)) rfl ?_
  refine WD.one 10 (by kernel_rfl) ?_
  refine WO.to rfl rfl .no (To.unsafeStr (e := 5) un154 cellsU8 rfl rfl (by repeat constructor) hB h0) rfl (fun _ => ⟨_, (by repeat' constructor)⟩) ?_
  rintro ⟨⟩
  refine WD.tk 11 rfl (by kernel_rfl) rfl rfl (Yl.assign rfl) rfl ?_
  refine WD.done (by kernel_rfl) ?_
  refine WC.ret ?_
  repeat (with_reducible (first | refine peelT ?_ | refine peelB ?_ | refine peelTX ?_ | refine peelBX ?_ | refine peelBN ?_ | refine peelBO rfl ?_))
  exact ret1 (.inr rfl) Tryz.results66 rfl fun w' h => ⟨(), trivial, rfl, h.sub (by repeat' constructor)⟩
end Go.Proofs.YtcplbkbimpiioaaGreatDoor
