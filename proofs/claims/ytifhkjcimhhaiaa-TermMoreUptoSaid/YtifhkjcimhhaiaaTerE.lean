/- strings.Builder: the walks. -/
import Derived.Test.YtifhkjcimhhaiaaFacts
import Derived.Test.YtifhkjcimhhaiaaLibSt
import Derived.Test.YtifhkjcimhhaiaaTerF
namespace Go.Proofs.Ytifhkjcimhhaiaa
open Go Go.RowKit
theorem some_of_sz {α β : Type} {o : Option α} {f : α → β} {y : β} (h : o.map f = some y) : o.isSome = true := by
  cases o with
  | none => cases h
  | some x => rfl
theorem cellsU8 : Nat.beq (Try.prog.cellsOf 5) 1 = true := by kernel_rfl
theorem liesBl : liesAt Try.prog Try.prog.depth 95 (2 / Try.prog.cellsOf 95) 0 95 1 = true := by kernel_rfl
theorem ext_noE (x : Value) (w : World) : (callFunc 68 #[x]).run Try.prog w = .ok (.value x) w := by
  rw [run_callFunc_extern (e := Extern.AbiNoEscape.same) Try.func68 (by kernel_rfl) (by kernel_rfl) (by kernel_rfl) (by kernel_rfl), Go.Lib.run_noEscape]
  rfl
/-- A builder, written to or not. -/
def bdP (b : Nat) (u : Bool) : Value := .pointer (if u then some ⟨b, 0, none⟩ else none)
abbrev bdR (b : Nat) (u : Bool) (x : Option Addr × Nat) (bs : List Int) : List Res := [blkR b 95 [bdP b u, .slice x.1 bs.length x.2], ownR (.slice x.1 bs.length x.2) 5 1 bs.length (ints .u8 bs)]
theorem chk_no (b : Nat) (v : Value) (w : World) (hw : OK w (fpL [blkR b 95 [.pointer none, v]]) [blkR b 95 [.pointer none, v]] w) :
    Fn Try.prog 56 [.pointer (some ⟨b, 0, none⟩)] [blkR b 95 [.pointer none, v]] w (fun _ : Unit => True) (fun _ => .tuple #[]) (fun _ => [blkR b 95 [.pointer (some ⟨b, 0, none⟩), v]]) := by
  have up : Try.prog.underlying 119 = some .unsafePointer := by kernel_rfl
  refine enterF Try.func56 rfl Try.ntmps56 rfl hw ?_
  refine WC.seq ?_
  refine WC.region ?_
  refine WL.y (Yl.move rfl) rfl ?_
  refine WL.y (Yl.nilCheck rfl) rfl ?_
  refine WL.y (Yl.field fo95_0 rfl) rfl ?_
  refine WL.y (Yl.load on93 rfl (by repeat (first | exact Take1.head | apply Take1.tail)) (by rfl)) rfl ?_
  refine WL.y (Yl.nilEq un93 rfl rfl) rfl ?_
  refine WL.know (t := 6) (b' := true) rfl (by first | rfl | (simp; done) | (simp; omega)) ?_
  refine WL.nil ?_
  refine WC.condT rfl (by first | rfl | (simp; done) | (simp; omega)) ?_
  refine WC.region ?_
  refine WL.y (Yl.move rfl) rfl ?_
  refine WL.y (Yl.move rfl) rfl ?_
  refine WL.y (Yl.toUnsafe (T := 95) (cs := [.pointer none, v]) un93 up sz95 (by decide) rfl (by repeat (first | exact Take1.head | apply Take1.tail)) (Nat.zero_lt_succ _)) rfl ?_
  refine WL.y (Yl.callExt (xs := [.tmp 9]) rfl rfl (fun w hw => ext_noE _ w)) rfl ?_
  refine WL.y (Yl.fromUnsafe (T := 95) (cs := [.pointer none, v]) up un93 (some_of_sz sz95) rfl (by repeat (first | exact Take1.head | apply Take1.tail)) liesBl) rfl ?_
  refine WL.y (Yl.nilCheck rfl) rfl ?_
  refine WL.y (Yl.field fo95_0 rfl) rfl ?_
  refine WL.sto (Sto.one sz93 rfl rfl (by repeat (first | exact Take1.head | apply Take1.tail)) rfl (by rfl) (by rfl)) (fun _ h => nomatch h) ?_
  refine WL.nil ?_
  repeat (first | (with_reducible refine peelT ?_) | (with_reducible refine peelB ?_) | (with_reducible refine peelTX ?_) | (with_reducible refine peelBX ?_) | (with_reducible refine peelBN ?_) | (with_reducible refine peelBO rfl ?_))
  exact ret0 (.inl rfl) Try.results56 fun w' h => ⟨(), trivial, rfl, h.sub (by repeat (first | exact TakeL.nil | (apply TakeL.cons; · repeat (first | exact Take1.head | apply Take1.tail))))⟩
theorem chk_yes (b : Nat) (v : Value) (w : World) (hw : OK w (fpL [blkR b 95 [.pointer (some ⟨b, 0, none⟩), v]]) [blkR b 95 [.pointer (some ⟨b, 0, none⟩), v]] w) :
    Fn Try.prog 56 [.pointer (some ⟨b, 0, none⟩)] [blkR b 95 [.pointer (some ⟨b, 0, none⟩), v]] w (fun _ : Unit => True) (fun _ => .tuple #[]) (fun _ => [blkR b 95 [.pointer (some ⟨b, 0, none⟩), v]]) := by
  refine enterF Try.func56 rfl Try.ntmps56 rfl hw ?_
  refine WC.seq ?_
  refine WC.region ?_
  refine WL.y (Yl.move rfl) rfl ?_
  refine WL.y (Yl.nilCheck rfl) rfl ?_
  refine WL.y (Yl.field fo95_0 rfl) rfl ?_
  refine WL.y (Yl.load on93 rfl (by repeat (first | exact Take1.head | apply Take1.tail)) (by rfl)) rfl ?_
  refine WL.y (Yl.nilEq un93 rfl rfl) rfl ?_
  refine WL.know (t := 6) (b' := false) rfl (by first | rfl | (simp; done) | (simp; omega)) ?_
  refine WL.nil ?_
  refine WC.condF rfl (by first | rfl | (simp; done) | (simp; omega)) ?_
  refine WC.seq ?_
  refine WC.region ?_
  refine WL.y (Yl.move rfl) rfl ?_
  refine WL.y (Yl.nilCheck rfl) rfl ?_
  refine WL.y (Yl.field fo95_0 rfl) rfl ?_
  refine WL.y (Yl.load on93 rfl (by repeat (first | exact Take1.head | apply Take1.tail)) (by rfl)) rfl ?_
  refine WL.y (Yl.move rfl) rfl ?_
  refine WL.y (Yl.nePtr un93 (some_of_sz sz95) rfl rfl) rfl ?_
  refine WL.know (t := 19) (b' := false) rfl (by first | rfl | (simp; done) | (simp; omega)) ?_
  refine WL.nil ?_
  refine WC.condF rfl (by first | rfl | (simp; done) | (simp; omega)) ?_
  refine WC.skip ?_
  repeat (first | (with_reducible refine peelT ?_) | (with_reducible refine peelB ?_) | (with_reducible refine peelTX ?_) | (with_reducible refine peelBX ?_) | (with_reducible refine peelBN ?_) | (with_reducible refine peelBO rfl ?_))
  exact ret0 (.inl rfl) Try.results56 fun w' h => ⟨(), trivial, rfl, h.sub (by repeat (first | exact TakeL.nil | (apply TakeL.cons; · repeat (first | exact Take1.head | apply Take1.tail))))⟩
theorem chk_any (b : Nat) (u : Bool) (v : Value) (w : World) (hw : OK w (fpL [blkR b 95 [bdP b u, v]]) [blkR b 95 [bdP b u, v]] w) :
    Fn Try.prog 56 [.pointer (some ⟨b, 0, none⟩)] [blkR b 95 [bdP b u, v]] w (fun _ : Unit => True) (fun _ => .tuple #[]) (fun _ => [blkR b 95 [bdP b true, v]]) := by
  cases u with
  | false => exact chk_no b v w hw
  | true => exact chk_yes b v w hw
theorem wb_any (b : Nat) (u : Bool) (x : Option Addr × Nat) (bs : List Int) (y : Int) (hl : bs.length ≤ 1000000000) (w : World) (hw : OK w (fpL (bdR b u x bs)) (bdR b u x bs) w) :
    Fn Try.prog 47 [.pointer (some ⟨b, 0, none⟩), .int .u8 y] (bdR b u x bs) w (fun _ : Option Addr × Nat => True) (fun _ => .nilIface) (fun z => bdR b true z (bs ++ [y])) := by
  refine enterF Try.func47 rfl Try.ntmps47 rfl hw ?_
  refine WC.seq ?_
  refine WC.region ?_
  refine WL.y (Yl.assign rfl) rfl ?_
  refine WL.nil ?_
  refine WC.seq ?_
  refine WC.region ?_
  refine WL.y (Yl.move rfl) rfl ?_
  refine WL.callC (xs := [.tmp 5]) (cap := []) rfl rfl en56 (by repeat (first | exact TakeL.nil | (apply TakeL.cons; · repeat (first | exact Take1.head | apply Take1.tail)))) (fun w hw => chk_any b u (.slice x.1 bs.length x.2) w hw.left.here) rfl ?_
  rintro ⟨⟩ -
  dsimp only [List.cons_append, List.nil_append]
  refine WL.nil ?_
  refine WC.seq ?_
  refine WC.region ?_
  refine WL.y (Yl.move rfl) rfl ?_
  refine WL.y (Yl.move rfl) rfl ?_
  refine WL.y (Yl.nilCheck rfl) rfl ?_
  refine WL.y (Yl.field fo95_1 rfl) rfl ?_
  refine WL.y (Yl.load on75 rfl (by repeat (first | exact Take1.head | apply Take1.tail)) (by rfl)) rfl ?_
  refine WL.y (Yl.move rfl) rfl ?_
  refine WL.to (To.buildSlice (vs := [.int .u8 y]) un75 zs5 rfl rfl (by simp [Value.cells]) (by decide) (by decide)) rfl ?_
  intro b13
  refine WL.to (To.append sl75 rfl rfl (by repeat (first | exact Take1.head | apply Take1.tail)) (Reads.of (RdOf.blk (size := 1) (n := 1) (cs := ints .u8 [y]) (cs' := ints .u8 [y]) (Nat.le_refl _) (by unfold maxLen; omega) (by simp [ints]) rfl) (by repeat (first | exact Take1.head | apply Take1.tail))) (ints_one _ _) (show bs.length + 1 = (bs ++ [y]).length by simp) (show ints .u8 bs ++ ints .u8 [y] = ints .u8 (bs ++ [y]) by rw [ints_append]) (by simp; unfold maxLen; omega) (by simp; omega)) rfl ?_
  rintro ⟨⟨ao14, c14⟩, hc14⟩
  dsimp only at hc14 ⊢
  refine WL.y (Yl.nilCheck rfl) rfl ?_
  refine WL.y (Yl.field fo95_1 rfl) rfl ?_
  refine WL.sto (Sto.one sz75 rfl rfl (by repeat (first | exact Take1.head | apply Take1.tail)) rfl (by rfl) (by rfl)) (fun _ h => nomatch h) ?_
  refine WL.nil ?_
  refine WC.seq ?_
  refine WC.region ?_
  refine WL.y (Yl.assign rfl) rfl ?_
  refine WL.nil ?_
  refine WC.ret ?_
  repeat (first | (with_reducible refine peelT ?_) | (with_reducible refine peelB ?_) | (with_reducible refine peelTX ?_) | (with_reducible refine peelBX ?_) | (with_reducible refine peelBN ?_) | (with_reducible refine peelBO rfl ?_))
  exact ret1 (.inr rfl) Try.results47 rfl fun w' h => ⟨(ao14, c14), trivial, rfl, h.sub (by repeat (first | exact TakeL.nil | (apply TakeL.cons; · repeat (first | exact Take1.head | apply Take1.tail))))⟩
theorem wr_any (b : Nat) (u : Bool) (x : Option Addr × Nat) (bs ys : List Int) (yv : Value) (hl : bs.length + ys.length ≤ 1000000000) (w : World) (hx : RdS w (fpL (bdR b u x bs)) yv 1 ys.length (ints .u8 ys)) (hw : OK w (fpL (bdR b u x bs)) (bdR b u x bs) w) :
    Fn Try.prog 48 [.pointer (some ⟨b, 0, none⟩), yv] (bdR b u x bs) w (fun _ : Option Addr × Nat => True) (fun _ => .tuple #[.int .i64 (ys.length : Int), .nilIface]) (fun z => bdR b true z (bs ++ ys)) := by
  obtain ⟨al, cl, rfl, hcl, hml⟩ := hx.rd.form
  refine enterF Try.func48 rfl Try.ntmps48 rfl hw ?_
  refine WC.seq ?_
  refine WC.region ?_
  refine WL.y (Yl.assign rfl) rfl ?_
  refine WL.y (Yl.assign rfl) rfl ?_
  refine WL.nil ?_
  refine WC.seq ?_
  refine WC.region ?_
  refine WL.y (Yl.move rfl) rfl ?_
  refine WL.callC (xs := [.tmp 6]) (cap := []) rfl rfl en56 (by repeat (first | exact TakeL.nil | (apply TakeL.cons; · repeat (first | exact Take1.head | apply Take1.tail)))) (fun w hw => chk_any b u (.slice x.1 bs.length x.2) w hw.left.here) rfl ?_
  rintro ⟨⟩ -
  dsimp only [List.cons_append, List.nil_append]
  refine WL.nil ?_
  refine WC.seq ?_
  refine WC.region ?_
  refine WL.y (Yl.move rfl) rfl ?_
  refine WL.y (Yl.move rfl) rfl ?_
  refine WL.y (Yl.nilCheck rfl) rfl ?_
  refine WL.y (Yl.field fo95_1 rfl) rfl ?_
  refine WL.y (Yl.load on75 rfl (by repeat (first | exact Take1.head | apply Take1.tail)) (by rfl)) rfl ?_
  refine WL.y (Yl.move rfl) rfl ?_
  refine WL.to (To.append sl75 rfl rfl (by repeat (first | exact Take1.head | apply Take1.tail)) (Reads.s hx) (ints_one _ _) (show bs.length + ys.length = (bs ++ ys).length by simp) (show ints .u8 bs ++ ints .u8 ys = ints .u8 (bs ++ ys) by rw [ints_append]) (by simp; unfold maxLen; omega) (by simp; omega)) rfl ?_
  rintro ⟨⟨ao14, c14⟩, hc14⟩
  dsimp only at hc14 ⊢
  refine WL.y (Yl.nilCheck rfl) rfl ?_
  refine WL.y (Yl.field fo95_1 rfl) rfl ?_
  refine WL.sto (Sto.one sz75 rfl rfl (by repeat (first | exact Take1.head | apply Take1.tail)) rfl (by rfl) (by rfl)) (fun _ h => nomatch h) ?_
  refine WL.nil ?_
  refine WC.seq ?_
  refine WC.region ?_
  refine WL.y (Yl.move rfl) rfl ?_
  refine WL.y (Yl.len un75 rfl) rfl ?_
  refine WL.y (Yl.assign rfl) rfl ?_
  refine WL.y (Yl.assign rfl) rfl ?_
  refine WL.nil ?_
  refine WC.ret ?_
  repeat (first | (with_reducible refine peelT ?_) | (with_reducible refine peelB ?_) | (with_reducible refine peelTX ?_) | (with_reducible refine peelBX ?_) | (with_reducible refine peelBN ?_) | (with_reducible refine peelBO rfl ?_))
  exact ret2 (.inr rfl) Try.results48 rfl rfl fun w' h => ⟨(ao14, c14), trivial, rfl, h.sub (by repeat (first | exact TakeL.nil | (apply TakeL.cons; · repeat (first | exact Take1.head | apply Take1.tail))))⟩
theorem ws_any (b : Nat) (u : Bool) (x : Option Addr × Nat) (bs ys : List Int) (hl : bs.length + ys.length ≤ 1000000000) (hB : Bytes ys) (w : World) (hw : OK w (fpL (bdR b u x bs)) (bdR b u x bs) w) :
    Fn Try.prog 49 [.pointer (some ⟨b, 0, none⟩), .string (strOfNums ys)] (bdR b u x bs) w (fun _ : Option Addr × Nat => True) (fun _ => .tuple #[.int .i64 (ys.length : Int), .nilIface]) (fun z => bdR b true z (bs ++ ys)) := by
  refine enterF Try.func49 rfl Try.ntmps49 rfl hw ?_
  refine WC.seq ?_
  refine WC.region ?_
  refine WL.y (Yl.assign rfl) rfl ?_
  refine WL.y (Yl.assign rfl) rfl ?_
  refine WL.nil ?_
  refine WC.seq ?_
  refine WC.region ?_
  refine WL.y (Yl.move rfl) rfl ?_
  refine WL.callC (xs := [.tmp 6]) (cap := []) rfl rfl en56 (by repeat (first | exact TakeL.nil | (apply TakeL.cons; · repeat (first | exact Take1.head | apply Take1.tail)))) (fun w hw => chk_any b u (.slice x.1 bs.length x.2) w hw.left.here) rfl ?_
  rintro ⟨⟩ -
  dsimp only [List.cons_append, List.nil_append]
  refine WL.nil ?_
  refine WC.seq ?_
  refine WC.region ?_
  refine WL.y (Yl.move rfl) rfl ?_
  refine WL.y (Yl.move rfl) rfl ?_
  refine WL.y (Yl.nilCheck rfl) rfl ?_
  refine WL.y (Yl.field fo95_1 rfl) rfl ?_
  refine WL.y (Yl.load on75 rfl (by repeat (first | exact Take1.head | apply Take1.tail)) (by rfl)) rfl ?_
  refine WL.y (Yl.move rfl) rfl ?_
  refine WL.to (To.appendS sl75 un9 rfl rfl (by repeat (first | exact Take1.head | apply Take1.tail)) hB (show bs.length + ys.length = (bs ++ ys).length by simp) (show ints .u8 bs ++ ints .u8 ys = ints .u8 (bs ++ ys) by rw [ints_append]) (by simp; unfold maxLen; omega) (by simp; omega)) rfl ?_
  rintro ⟨⟨ao14, c14⟩, hc14⟩
  dsimp only at hc14 ⊢
  refine WL.y (Yl.nilCheck rfl) rfl ?_
  refine WL.y (Yl.field fo95_1 rfl) rfl ?_
  refine WL.sto (Sto.one sz75 rfl rfl (by repeat (first | exact Take1.head | apply Take1.tail)) rfl (by rfl) (by rfl)) (fun _ h => nomatch h) ?_
  refine WL.nil ?_
  refine WC.seq ?_
  refine WC.region ?_
  refine WL.y (Yl.move rfl) rfl ?_
  refine WL.y (Yl.lenT un9 rfl) rfl ?_
  refine WL.y (Yl.assign rfl) rfl ?_
  refine WL.y (Yl.assign rfl) rfl ?_
  refine WL.nil ?_
  refine WC.ret ?_
  repeat (first | (with_reducible refine peelT ?_) | (with_reducible refine peelB ?_) | (with_reducible refine peelTX ?_) | (with_reducible refine peelBX ?_) | (with_reducible refine peelBN ?_) | (with_reducible refine peelBO rfl ?_))
  exact ret2 (.inr rfl) Try.results49 rfl rfl fun w' h => ⟨(ao14, c14), trivial, rfl, h.sub (by repeat (first | exact TakeL.nil | (apply TakeL.cons; · repeat (first | exact Take1.head | apply Take1.tail))))⟩
set_option maxRecDepth 100000 in
theorem str_any (b : Nat) (x : Option Addr × Nat) (bs : List Int) (hB : Bytes bs) (h0 : 0 < bs.length) (w : World) (hw : OK w (fpL (bdR b true x bs)) (bdR b true x bs) w) :
    Fn Try.prog 50 [.pointer (some ⟨b, 0, none⟩)] (bdR b true x bs) w (fun _ : Unit => True) (fun _ => .string (strOfNums bs)) (fun _ => []) := by
  obtain ⟨xa, xc⟩ := x
  have hs : Sown w 5 1 (.slice xa bs.length xc) bs.length (ints .u8 bs) := hw.get (.tail .head)
  obtain ⟨a, rfl, hc⟩ : ∃ a, xa = some a ∧ a.spot = none ∧ bs.length ≤ xc := by
    rcases hs.2 with ⟨h, h2⟩ | ⟨g, o, cap, cur, h, _, h3, _⟩
    · omega
    · cases h; exact ⟨_, rfl, rfl, h3⟩
  obtain ⟨ab, aof, asp⟩ := a
  obtain ⟨rfl, hc⟩ := hc
  refine enterF Try.func50 rfl Try.ntmps50 rfl hw ?_
  refine WC.seq ?_
  refine WC.region ?_
  refine WL.y (Yl.assign rfl) rfl ?_
  refine WL.nil ?_
  refine WC.seq ?_
  refine WC.drawAny (Hs := [blkR b 95 [bdP b true, .slice (some ⟨ab, aof, none⟩) bs.length xc]]) mixed (by kernel_rfl) ⟨_, (by repeat (first | exact TakeL.nil | (apply TakeL.cons; · repeat (first | exact Take1.head | apply Take1.tail))))⟩ ?_
  refine WD.take 0 rfl (by kernel_rfl) (by kernel_rfl) (by kernel_rfl) rfl rfl (Yl.move rfl) rfl ?_
  refine WD.take 1 rfl (by kernel_rfl) (by kernel_rfl) (by kernel_rfl) rfl rfl (Yl.nilCheck rfl) rfl ?_
  refine WD.take 2 rfl (by kernel_rfl) (by kernel_rfl) (by kernel_rfl) rfl rfl (Yl.field fo95_1 rfl) rfl ?_
  refine WD.take 3 rfl (by kernel_rfl) (by kernel_rfl) (by kernel_rfl) rfl rfl (Yl.load on75 rfl (by repeat (first | exact Take1.head | apply Take1.tail)) (by rfl)) rfl ?_
  refine WD.take 5 rfl (by kernel_rfl) (by kernel_rfl) (by kernel_rfl) rfl rfl (Yl.move rfl) rfl ?_
  refine WD.take 6 rfl (by kernel_rfl) (by kernel_rfl) (by kernel_rfl) rfl rfl (Yl.nilCheck rfl) rfl ?_
  refine WD.take 7 rfl (by kernel_rfl) (by kernel_rfl) (by kernel_rfl) rfl rfl (Yl.field fo95_1 rfl) rfl ?_
  refine WD.take 8 rfl (by kernel_rfl) (by kernel_rfl) (by kernel_rfl) rfl rfl (Yl.load on75 rfl (by repeat (first | exact Take1.head | apply Take1.tail)) (by rfl)) rfl ?_
  refine WD.take 9 rfl (by kernel_rfl) (by kernel_rfl) (by kernel_rfl) rfl rfl (Yl.len un75 rfl) rfl ?_
  refine WD.one 4 (by kernel_rfl) ?_
  refine WO.y rfl rfl .no (Yl.sliceData rfl (by omega)) rfl ?_
  refine WD.one 10 (by kernel_rfl) ?_
  refine WO.to rfl rfl .no (To.unsafeStr (e := 5) un106 cellsU8 rfl rfl (by repeat (first | exact Take1.head | apply Take1.tail)) hB h0) rfl (fun _ => ⟨_, (by repeat (first | exact TakeL.nil | (apply TakeL.cons; · repeat (first | exact Take1.head | apply Take1.tail))))⟩) ?_
  rintro ⟨⟩
  refine WD.take 11 rfl (by kernel_rfl) (by kernel_rfl) (by kernel_rfl) rfl rfl (Yl.assign rfl) rfl ?_
  refine WD.done (by kernel_rfl) ?_
  refine WC.ret ?_
  repeat (first | (with_reducible refine peelT ?_) | (with_reducible refine peelB ?_) | (with_reducible refine peelTX ?_) | (with_reducible refine peelBX ?_) | (with_reducible refine peelBN ?_) | (with_reducible refine peelBO rfl ?_))
  exact ret1 (.inr rfl) Try.results50 rfl fun w' h => ⟨(), trivial, rfl, h.sub (by repeat (first | exact TakeL.nil | (apply TakeL.cons; · repeat (first | exact Take1.head | apply Take1.tail))))⟩
end Go.Proofs.Ytifhkjcimhhaiaa

namespace Go.Proofs.Ytifhkjcimhhaiaa
open Go Go.RowKit
def encO : Option Tm → List Int
  | none => []
  | some t => t.enc
def tmC (o : Option Tm) : List Value := [.string (strOfNums (encO o))]
def tmV (o : Option Tm) : Value := .agg (tmC o).toArray
def OkO (o : Option Tm) : Prop := ∀ t, o = some t → t.ok
theorem encO_bytes {o : Option Tm} (h : OkO o) : Bytes (encO o) := by
  cases o with
  | none => intro x hx; cases hx
  | some t => exact enc_bytes t (h t rfl)
theorem encO_nil {o : Option Tm} : encO o = [] ↔ o = none := by
  cases o with
  | none => exact ⟨fun _ => rfl, fun _ => rfl⟩
  | some t =>
    refine ⟨fun h => ?_, fun h => nomatch h⟩
    have := enc_pos t
    have h : t.enc = [] := h
    rw [h] at this
    simp at this
theorem bytes_nil : Bytes [] := fun _ h => nomatch h
theorem tm_ones (o : Option Tm) : ∀ u ∈ tmC o, u.oneCell' = true := by
  intro u hu
  rw [List.mem_singleton.1 hu]
  rfl
theorem vtM : VT Try.prog 34 1 OkO tmV := .agg (cel := tmC) (by kernel_rfl) (by kernel_rfl) (by decide) (fun _ => rfl) (fun _ _ => rfl) (fun o => tm_ones o)
def AllO (l : List (Option Tm)) : Prop := ∀ o ∈ l, OkO o
theorem be_any (n : Int) (hn : 0 ≤ n ∧ n < 18446744073709551616) (w : World) (hw : OK w (fpL []) [] w) :
    Fn Try.prog 38 [.int .u64 n] [] w (fun _ : Option Addr × Nat => True) (fun y => .slice y.1 8 y.2) (fun y => [ownR (.slice y.1 8 y.2) 5 1 8 (ints .u8 (be n 8))]) := by
  refine enterF Try.func38 rfl Try.ntmps38 rfl hw ?_
  refine WC.seq ?_
  refine WC.region ?_
  refine WL.y (Yl.assign rfl) rfl ?_
  refine WL.nil ?_
  refine WC.seq ?_
  refine WC.region ?_
  refine WL.y (Yl.assign rfl) rfl ?_
  refine WL.nil ?_
  refine WC.seq ?_
  refine WC.seq ?_
  refine WC.region ?_
  refine WL.y (Yl.assign rfl) rfl ?_
  refine WL.nil ?_
  refine WC.block ?_
  refine WC.view (fun w h => h.addNil 5 1) ?_
  refine WC.loop (α := Nat × (Option Addr × Nat)) (fun p => [(0, .int .u64 n), (3, .slice p.2.1 p.1 p.2.2), (4, .int .i64 (7 - (p.1 : Int)))]) (fun p => [ownR (.slice p.2.1 p.1 p.2.2) 5 1 p.1 (ints .u8 (beK n 8 p.1))]) (fun p => p.1 ≤ 8) (fun p => 8 - p.1) (0, none, 0) (Nat.zero_le _) ⟨(by repeat (first | exact Sub.nil | refine Sub.cons rfl ?_)), _, (by repeat (first | exact TakeL.nil | (apply TakeL.cons; · repeat (first | exact Take1.head | apply Take1.tail))))⟩ ?_
  rintro ⟨k, ao, c⟩ hk
  dsimp only at hk ⊢
  have hp : (0 : Int) ≤ 2 ^ (8 * (8 - 1 - k)) := Int.pow_nonneg (by decide)
  refine WC.seq ?_
  refine WC.seq ?_
  refine WC.region ?_
  refine WL.y (Yl.move rfl) rfl ?_
  refine WL.y (Yl.geq rfl rfl) rfl ?_
  refine WL.nil ?_
  refine WC.condD rfl (fun g6 => ?_) (fun g6 => ?_)
  · refine WC.skip ?_
    refine WC.seq ?_
    refine WC.block ?_
    refine WC.region ?_
    refine WL.y (Yl.move rfl) rfl ?_
    refine WL.y (Yl.move rfl) rfl ?_
    refine WL.y (Yl.move rfl) rfl ?_
    refine WL.y (Yl.mul rfl rfl (IntWalk.i64_in _ (by omega))) rfl ?_
    refine WL.say (t := 12) (v' := .int .i64 ((8 : Int) * (((8 : Nat) : Int) - 1 - (k : Int)))) rfl (by (refine congrArg (Value.int .i64) ?_; omega)) ?_
    refine WL.y (Yl.shr rfl rfl ⟨by omega, (by simp [IntKind.bits]; try omega)⟩ rfl) rfl ?_
    refine WL.y (Yl.conv un36 un5 rfl (be_byte n 8 k (by omega) (by omega))) rfl ?_
    refine WL.to (To.buildSlice (vs := [.int .u8 (n / 2 ^ (8 * (8 - 1 - k)) % 256)]) un75 zs5 rfl rfl (by simp [Value.cells]) (by decide) (by decide)) rfl ?_
    intro b15
    refine WL.to (To.append sl75 rfl rfl (by repeat (first | exact Take1.head | apply Take1.tail)) (Reads.of (RdOf.blk (size := 1) (n := 1) (cs := [.int .u8 (n / 2 ^ (8 * (8 - 1 - k)) % 256)]) (cs' := ints .u8 [n / 2 ^ (8 * (8 - 1 - k)) % 256]) (Nat.le_refl _) (by unfold maxLen; omega) (by simp) rfl) (by repeat (first | exact Take1.head | apply Take1.tail))) (ints_one _ _) rfl (by rw [ints_append, ← beK_succ]) (by unfold maxLen; omega) (by omega)) rfl ?_
    rintro ⟨⟨ao16, c16⟩, hc16⟩
    dsimp only at hc16 ⊢
    refine WL.y (Yl.assign rfl) rfl ?_
    refine WL.nil ?_
    refine WC.region ?_
    refine WL.y (Yl.move rfl) rfl ?_
    refine WL.y (Yl.sub rfl rfl (IntWalk.i64_in _ (by omega))) rfl ?_
    refine WL.say (t := 8) (v' := .int .i64 (7 - ((k + 1 : Nat) : Int))) rfl (by (refine congrArg (Value.int .i64) ?_; omega)) ?_
    refine WL.y (Yl.assign rfl) rfl ?_
    refine WL.nil ?_
    exact ⟨rfl, (k + 1, ao16, c16), by dsimp only; omega, by dsimp only; omega, (by repeat (first | exact Sub.nil | refine Sub.cons rfl ?_)), _, (by repeat (first | exact TakeL.nil | (apply TakeL.cons; · repeat (first | exact Take1.head | apply Take1.tail))))⟩
  · refine WC.exit ?_
    refine WC.seq ?_
    refine WC.region ?_
    refine WL.y (Yl.move rfl) rfl ?_
    refine WL.y (Yl.assign rfl) rfl ?_
    refine WL.nil ?_
    refine WC.ret ?_
    repeat (first | (with_reducible refine peelT ?_) | (with_reducible refine peelB ?_) | (with_reducible refine peelTX ?_) | (with_reducible refine peelBX ?_) | (with_reducible refine peelBN ?_) | (with_reducible refine peelBO rfl ?_))
    have hkm : k = 8 := by omega
    subst hkm
    exact ret1 (.inr rfl) Try.results38 rfl fun w' h => ⟨(ao, c), trivial, rfl, h.sub (by repeat (first | exact TakeL.nil | (apply TakeL.cons; · repeat (first | exact Take1.head | apply Take1.tail))))⟩
def flO (l : List (Option Tm)) : List Int := (l.map encO).flatten
theorem flO_snoc {l : List (Option Tm)} {o : Option Tm} : flO (l ++ [o]) = flO l ++ encO o := by simp [flO]
theorem flO_take {l : List (Option Tm)} {i : Nat} {o : Option Tm} (h : l[i]? = some o) : flO (l.take (i + 1)) = flO (l.take i) ++ encO o := by rw [← take_snoc _ _ _ h, flO_snoc]
theorem flO_le (l : List (Option Tm)) (i : Nat) : (flO (l.take i)).length ≤ (flO l).length := by
  have : l = l.take i ++ l.drop i := (List.take_append_drop i l).symm
  rw [congrArg flO this]
  unfold flO
  rw [List.map_append, List.flatten_append, List.length_append]
  omega
theorem flO_at {l : List (Option Tm)} {i : Nat} {o : Option Tm} (h : l[i]? = some o) : (flO (l.take i)).length + (encO o).length ≤ (flO l).length := by
  have := flO_le l (i + 1)
  rw [flO_take h, List.length_append] at this
  exact this
/-- What is built: nothing, if a part is none. -/
def bldB (k : Int) (nb : List Int) (l : List (Option Tm)) : List Int := if l.all Option.isSome then k :: (nb ++ flO l) else []
theorem bldB_no {k : Int} {nb : List Int} {l : List (Option Tm)} {i : Nat} (h : l[i]? = some none) : bldB k nb l = [] := by
  unfold bldB
  rw [if_neg]
  intro hh
  have := List.all_eq_true.1 hh none (List.mem_of_getElem? h)
  cases this
theorem bytes_flO {l : List (Option Tm)} (h : AllO l) : Bytes (flO l) := by
  intro x hx
  obtain ⟨bs, hb, hx⟩ := List.mem_flatten.1 hx
  obtain ⟨o, ho, rfl⟩ := List.mem_map.1 hb
  exact encO_bytes (h o ho) x hx
set_option maxRecDepth 100000 in
theorem build_any (k : Int) (hk : 0 ≤ k ∧ k < 256) (nb : List Int) (hnb : Bytes nb) (nv lv : Value) (l : List (Option Tm)) (hl : AllO l) (hlen : 1 + nb.length + (flO l).length ≤ 1000000000) (w : World) (hx : RdS w (fpL []) nv 1 nb.length (ints .u8 nb)) (hy : RdS w (fpL []) lv 1 l.length (vcs tmV l)) (hw : OK w (fpL []) [] w) :
    Fn Try.prog 37 [.int .u8 k, nv, lv] [] w (fun _ : Unit => True) (fun _ => .agg #[.string (strOfNums (bldB k nb l))]) (fun _ => []) := by
  obtain ⟨al, cl, rfl, hcl, hml⟩ := hy.rd.form
  unfold maxLen at hml
  refine enterF Try.func37 rfl Try.ntmps37 rfl hw ?_
  refine WC.seq ?_
  refine WC.region ?_
  refine WL.to (To.alloc (cs := [.string (strOfNums [])]) zr34 rfl) rfl ?_
  intro b6
  refine WL.nil ?_
  refine WC.seq ?_
  refine WC.region ?_
  refine WL.to (To.alloc (cs := [.pointer none, .slice none 0 0]) zr95 rfl) rfl ?_
  intro b7
  refine WL.nil ?_
  refine WC.seq ?_
  refine WC.region ?_
  refine WL.y (Yl.move rfl) rfl ?_
  refine WL.view (fun w h => h.addNil 5 1) ?_
  refine WL.callC (xs := [.tmp 7, .tmp 10]) (cap := []) rfl rfl en47 (by repeat (first | exact TakeL.nil | (apply TakeL.cons; · repeat (first | exact Take1.head | apply Take1.tail)))) (fun w hw => wb_any b7 false (none, 0) [] k (by simp) w hw.left.here) rfl ?_
  intro x11 _
  dsimp only [List.cons_append, List.nil_append]
  refine WL.nil ?_
  refine WC.seq ?_
  refine WC.region ?_
  refine WL.y (Yl.move rfl) rfl ?_
  refine WL.callC (xs := [.tmp 7, .tmp 12]) (cap := []) rfl rfl en48 (by repeat (first | exact TakeL.nil | (apply TakeL.cons; · repeat (first | exact Take1.head | apply Take1.tail)))) (fun w hw => wr_any b7 true x11 [k] nb nv (by simp; omega) w (hw.srcS hx) hw.left.here) rfl ?_
  intro x13 _
  dsimp only [List.cons_append, List.nil_append]
  refine WL.nil ?_
  refine WC.seq ?_
  refine WC.seq ?_
  refine WC.region ?_
  refine WL.y (Yl.move rfl) rfl ?_
  refine WL.y (Yl.len un25 rfl) rfl ?_
  refine WL.y (Yl.move rfl) rfl ?_
  refine WL.nil ?_
  refine WC.block ?_
  refine WC.loop (α := Nat × (Option Addr × Nat)) (fun s => [(6, .pointer (some ⟨b6, 0, none⟩)), (7, .pointer (some ⟨b7, 0, none⟩)), (14, .slice al l.length cl), (15, .int .i64 (l.length : Int)), (16, .int .i64 (s.1 : Int))]) (fun s => blkR b6 34 [.string (strOfNums [])] :: bdR b7 true s.2 (k :: (nb ++ flO (l.take s.1)))) (fun s => s.1 ≤ l.length ∧ (l.take s.1).all Option.isSome = true) (fun s => l.length - s.1) (0, x13) ⟨Nat.zero_le _, rfl⟩ ⟨(by repeat (first | exact Sub.nil | refine Sub.cons rfl ?_)), _, (by rw [show k :: (nb ++ flO (l.take (0, x13).1)) = k :: nb by simp [flO]]; exact (by repeat (first | exact TakeL.nil | (apply TakeL.cons; · repeat (first | exact Take1.head | apply Take1.tail)))))⟩ ?_
  rintro ⟨i, y⟩ ⟨hi, hall⟩
  dsimp only at hi hall ⊢
  refine WC.seq ?_
  refine WC.region ?_
  refine WL.y (Yl.lss rfl rfl) rfl ?_
  refine WL.nil ?_
  refine WC.seq ?_
  refine WC.condD rfl (fun g17 => ?_) (fun g17 => ?_)
  · refine WC.skip ?_
    refine WC.seq ?_
    refine WC.block ?_
    refine WC.seq ?_
    refine WC.region ?_
    have hil : i < l.length := by omega
    obtain ⟨x, hx0⟩ : ∃ x, l[i]? = some x := ⟨_, List.getElem?_eq_getElem hil⟩
    have hxo := hl x (List.mem_of_getElem? hx0)
    have hfl := flO_at hx0
    refine WL.y (Yl.index un25 sz34 rfl rfl (Reads.s hy) rfl (by omega)) rfl ?_
    refine WL.y (Yl.loadV (j := i) (u := x) vtM hl rfl (Reads.s hy) rfl hx0) rfl ?_
    refine WL.to (To.alloc (cs := [.string (strOfNums [])]) zr34 rfl) rfl ?_
    intro b9
    refine WL.sto (Sto.agg sz34 rfl rfl (by repeat (first | exact Take1.head | apply Take1.tail)) (tm_ones _) (show (tmC x).length = 1 from rfl) (by rfl) (show _ = tmC x from rfl)) (fun _ h => nomatch h) ?_
    refine WL.nil ?_
    refine WC.seq ?_
    refine WC.seq ?_
    refine WC.region ?_
    refine WL.y (Yl.field fo34_0 rfl) rfl ?_
    refine WL.y (Yl.load on9 rfl (by repeat (first | exact Take1.head | apply Take1.tail)) (by rfl)) rfl ?_
    refine WL.y (Yl.sEqT (encO_bytes hxo) bytes_nil rfl rfl) rfl ?_
    refine WL.nil ?_
    refine WC.condD rfl (fun g22 => ?_) (fun g22 => ?_)
    · refine WC.seq ?_
      have hno : x = none := encO_nil.1 g22
      subst hno
      refine WC.region ?_
      refine WL.y (Yl.build rfl (cs := [.string (strOfNums [])]) (fun _ => by kernel_rfl)) rfl ?_
      refine WL.sto (Sto.agg sz34 rfl rfl (by repeat (first | exact Take1.head | apply Take1.tail)) (tm_ones none) rfl (by rfl) (show _ = tmC none from rfl)) (fun _ h => nomatch h) ?_
      refine WL.nil ?_
      refine WC.ret ?_
      repeat (first | (with_reducible refine peelT ?_) | (with_reducible refine peelB ?_) | (with_reducible refine peelTX ?_) | (with_reducible refine peelBX ?_) | (with_reducible refine peelBN ?_) | (with_reducible refine peelBO rfl ?_))
      rw [bldB_no hx0]
      exact retC1 (cs := tmC none) (.inr rfl) Try.results37 ag34 rfl (by repeat (first | exact Take1.head | apply Take1.tail)) rfl fun w' h => ⟨(), trivial, rfl, h.sub (by repeat (first | exact TakeL.nil | (apply TakeL.cons; · repeat (first | exact Take1.head | apply Take1.tail))))⟩
    · refine WC.skip ?_
      obtain ⟨t, rfl⟩ : ∃ t, x = some t := by
        cases x with
        | none => exact absurd rfl g22
        | some t => exact ⟨t, rfl⟩
      refine WC.region ?_
      refine WL.y (Yl.field fo34_0 rfl) rfl ?_
      refine WL.y (Yl.load on9 rfl (by repeat (first | exact Take1.head | apply Take1.tail)) (by rfl)) rfl ?_
      refine WL.callC (xs := [.tmp 7, .tmp 25]) (cap := []) rfl rfl en49 (by repeat (first | exact TakeL.nil | (apply TakeL.cons; · repeat (first | exact Take1.head | apply Take1.tail)))) (fun w hw => ws_any b7 true y (k :: (nb ++ flO (l.take i))) (encO (some t)) (by simp; omega) (encO_bytes hxo) w hw.left.here) rfl ?_
      intro x26 _
      rw [show k :: (nb ++ flO (l.take i)) ++ encO (some t) = k :: (nb ++ flO (l.take (i + 1))) by rw [flO_take hx0, List.cons_append, List.append_assoc]]
      refine WL.nil ?_
      refine WC.region ?_
      refine WL.y (Yl.add rfl rfl (IntWalk.i64_in _ (by omega))) rfl ?_
      refine WL.y (Yl.move rfl) rfl ?_
      refine WL.nil ?_
      exact ⟨rfl, (i + 1, x26), ⟨by dsimp only; omega, by dsimp only; rw [← take_snoc _ _ _ hx0, List.all_append, hall]; rfl⟩, by dsimp only; omega, (by repeat (first | exact Sub.nil | refine Sub.cons rfl ?_)), _, (by repeat (first | exact TakeL.nil | (apply TakeL.cons; · repeat (first | exact Take1.head | apply Take1.tail))))⟩
  · refine WC.exit ?_
    refine WC.seq ?_
    have hil : i = l.length := by omega
    subst hil
    rw [List.take_length] at hall ⊢
    have e : bldB k nb l = k :: (nb ++ flO l) := by unfold bldB; rw [hall]; rfl
    have hBy : Bytes (k :: (nb ++ flO l)) := by
      intro x hx
      rcases List.mem_cons.1 hx with rfl | hx
      · exact hk
      · exact (hnb.app (bytes_flO hl)) x hx
    rw [e]
    refine WC.region ?_
    refine WL.callC (xs := [.tmp 7]) (cap := []) rfl rfl en50 (by repeat (first | exact TakeL.nil | (apply TakeL.cons; · repeat (first | exact Take1.head | apply Take1.tail)))) (fun w hw => str_any b7 y (k :: (nb ++ flO l)) hBy (by simp) w hw.left.here) rfl ?_
    rintro ⟨⟩ -
    refine WL.y (Yl.build rfl (cs := [.string (strOfNums (k :: (nb ++ flO l)))]) (fun _ => by kernel_rfl)) rfl ?_
    refine WL.sto (Sto.agg sz34 rfl rfl (by repeat (first | exact Take1.head | apply Take1.tail)) (by intro u hu; rw [List.mem_singleton.1 hu]; rfl) rfl (by rfl) (show _ = [Value.string (strOfNums (k :: (nb ++ flO l)))] from rfl)) (fun _ h => nomatch h) ?_
    refine WL.nil ?_
    refine WC.ret ?_
    repeat (first | (with_reducible refine peelT ?_) | (with_reducible refine peelB ?_) | (with_reducible refine peelTX ?_) | (with_reducible refine peelBX ?_) | (with_reducible refine peelBN ?_) | (with_reducible refine peelBO rfl ?_))
    exact retC1 (cs := [.string (strOfNums (k :: (nb ++ flO l)))]) (.inr rfl) Try.results37 ag34 rfl (by repeat (first | exact Take1.head | apply Take1.tail)) rfl fun w' h => ⟨(), trivial, rfl, h.sub (by repeat (first | exact TakeL.nil | (apply TakeL.cons; · repeat (first | exact Take1.head | apply Take1.tail))))⟩
end Go.Proofs.Ytifhkjcimhhaiaa

namespace Go.Proofs.Ytifhkjcimhhaiaa
open Go Go.RowKit
theorem flO_some (ts : List Tm) : flO (ts.map some) = encs ts := by
  induction ts with
  | nil => rw [encs_nil]; rfl
  | cons t ts ih => rw [encs_cons, ← ih]; rfl
theorem allO_cons (t : Tm) (l : List (Option Tm)) : allO id (some t :: l) = (allO id l).map (t :: ·) := by
  rw [allO]
  cases allO id l <;> rfl
theorem allO_some (ts : List Tm) : allO id (ts.map some) = some ts ∧ (ts.map some).all Option.isSome = true := by
  induction ts with
  | nil => exact ⟨rfl, rfl⟩
  | cons t ts ih => exact ⟨by rw [List.map_cons, allO_cons, ih.1]; rfl, by rw [List.map_cons, List.all_cons, ih.2]; rfl⟩
theorem allO_cases (l : List (Option Tm)) : (∃ ts : List Tm, l = ts.map some) ∨ (allO id l = none ∧ l.all Option.isSome = false) := by
  induction l with
  | nil => exact .inl ⟨[], rfl⟩
  | cons o l ih =>
    cases o with
    | none => exact .inr ⟨rfl, rfl⟩
    | some t =>
      rcases ih with ⟨ts, rfl⟩ | ⟨h1, h2⟩
      · exact .inl ⟨t :: ts, rfl⟩
      · exact .inr ⟨by rw [allO_cons, h1]; rfl, by rw [List.all_cons, h2]; rfl⟩
theorem atom_bld (n : Int) : bldB 1 (be n 8) [] = encO (some (atomT n)) := by
  show (if ([] : List (Option Tm)).all Option.isSome then _ else _) = (atomT n).enc
  unfold atomT
  rw [enc_mk, encs_nil]
  rfl
def mkO (k : Int) (a b : Option Tm) : Option Tm := match a, b with
  | some x, some y => some (.mk k 0 [x, y])
  | _, _ => none
theorem two_bld {k : Int} (h1 : k ≠ 1) (h3 : k ≠ 3) (a b : Option Tm) : bldB k [] [a, b] = encO (mkO k a b) := by
  cases a with
  | none => rfl
  | some x =>
    cases b with
    | none => rfl
    | some y =>
      show k :: ([] ++ flO ([x, y].map some)) = (Tm.mk k 0 [x, y]).enc
      rw [enc_mk, flO_some]
      unfold hdB
      rw [if_neg h1, if_neg h3]
      rfl
def pubO (a : Option Tm) : Option Tm := a.map pubT
theorem pub_bld (a : Option Tm) : bldB 5 [] [a] = encO (pubO a) := by
  cases a with
  | none => rfl
  | some x =>
    show 5 :: ([] ++ flO ([x].map some)) = (pubT x).enc
    unfold pubT
    rw [enc_mk, flO_some]
    rfl
def hashO (n : Int) (l : List (Option Tm)) : Option Tm := if l.length ≤ 255 then (allO id l).map (hashT n) else none
theorem hash_bld (n : Int) {l : List (Option Tm)} (hl : l.length ≤ 255) : bldB 3 (be n 8 ++ [(l.length : Int)]) l = encO (hashO n l) := by
  unfold hashO
  rw [if_pos hl]
  rcases allO_cases l with ⟨ts, rfl⟩ | ⟨h1, h2⟩
  · rw [(allO_some ts).1]
    unfold bldB
    rw [(allO_some ts).2, if_pos rfl, flO_some]
    show _ = (hashT n ts).enc
    unfold hashT
    rw [enc_mk]
    unfold hdB
    rw [if_neg (by decide), if_pos rfl, List.length_map]
    rfl
  · rw [h1]
    unfold bldB
    rw [h2]
    rfl
theorem mkO_ok {k : Int} (hk : k = 2 ∨ k = 4) {a b : Option Tm} (ha : OkO a) (hb : OkO b) : OkO (mkO k a b) := by
  intro t h
  cases a with
  | none => cases h
  | some x =>
    cases b with
    | none => cases h
    | some y =>
      cases h
      rcases hk with rfl | rfl
      · exact pair_ok (ha x rfl) (hb y rfl)
      · exact seal_ok (ha x rfl) (hb y rfl)
theorem pubO_ok {a : Option Tm} (ha : OkO a) : OkO (pubO a) := by
  intro t h
  cases a with
  | none => cases h
  | some x => cases h; exact pub_ok (ha x rfl)
theorem atom_any (n : Int) (hn : 0 ≤ n ∧ n < 18446744073709551616) (w : World) (hw : OK w (fpL []) [] w) :
    Fn Try.prog 14 [.int .u64 n] [] w (fun _ : Unit => True) (fun _ => tmV (some (atomT n))) (fun _ => []) := by
  refine enterF Try.func14 rfl Try.ntmps14 rfl hw ?_
  refine WC.seq ?_
  refine WC.region ?_
  refine WL.to (To.alloc (cs := [.string (strOfNums [])]) zr34 rfl) rfl ?_
  intro b2
  refine WL.nil ?_
  refine WC.seq ?_
  refine WC.region ?_
  refine WL.y (Yl.move rfl) rfl ?_
  refine WL.callC (xs := [.tmp 3]) (cap := []) rfl rfl en38 (by repeat (first | exact TakeL.nil | (apply TakeL.cons; · repeat (first | exact Take1.head | apply Take1.tail)))) (fun w hw => be_any n hn w hw.left.here) rfl ?_
  rintro ⟨a4, c4⟩ -
  dsimp only [List.cons_append, List.nil_append]
  refine WL.callC (xs := [_, .tmp 4, _]) (cap := []) rfl rfl en37 (by repeat (first | exact TakeL.nil | (apply TakeL.cons; · repeat (first | exact Take1.head | apply Take1.tail)))) (fun w hw => build_any 1 (by decide) (be n 8) (Bytes.be _ _) (.slice a4 8 c4) (.slice none 0 0) [] (fun _ h => nomatch h) (by rw [be_len]; decide) w (by rw [be_len]; exact hw.src (A := []) (r := ownR (.slice a4 8 c4) 5 1 8 (ints .u8 (be n 8))) RdOf.own (by repeat (first | exact Take1.head | apply Take1.tail))) (fun _ _ => Rd.nil _ _) hw.left.here) rfl ?_
  rintro ⟨⟩ -
  rw [atom_bld]
  refine WL.sto (Sto.agg sz34 rfl rfl (by repeat (first | exact Take1.head | apply Take1.tail)) (tm_ones _) rfl (by rfl) (show _ = tmC (some (atomT n)) from rfl)) (fun _ h => nomatch h) ?_
  refine WL.nil ?_
  refine WC.ret ?_
  repeat (first | (with_reducible refine peelT ?_) | (with_reducible refine peelB ?_) | (with_reducible refine peelTX ?_) | (with_reducible refine peelBX ?_) | (with_reducible refine peelBN ?_) | (with_reducible refine peelBO rfl ?_))
  exact retC1 (cs := tmC (some (atomT n))) (.inr rfl) Try.results14 ag34 rfl (by repeat (first | exact Take1.head | apply Take1.tail)) rfl fun w' h => ⟨(), trivial, rfl, h.sub (by repeat (first | exact TakeL.nil | (apply TakeL.cons; · repeat (first | exact Take1.head | apply Take1.tail))))⟩
theorem pair_any (a b : Option Tm) (ha : OkO a) (hb : OkO b) (hlen : (encO a).length + (encO b).length ≤ 900000) (w : World) (hw : OK w (fpL []) [] w) :
    Fn Try.prog 20 [tmV a, tmV b] [] w (fun _ : Unit => True) (fun _ => tmV (mkO 2 a b)) (fun _ => []) := by
  unfold tmV
  refine enterF Try.func20 rfl Try.ntmps20 rfl hw ?_
  refine WC.seq ?_
  refine WC.region ?_
  refine WL.to (To.box (cs := tmC a) rfl rfl) rfl ?_
  intro b2
  refine WL.to (To.box (cs := tmC b) rfl rfl) rfl ?_
  intro b3
  refine WL.to (To.alloc (cs := [.string (strOfNums [])]) zr34 rfl) rfl ?_
  intro b4
  refine WL.nil ?_
  refine WC.seq ?_
  refine WC.region ?_
  refine WL.y (Yl.loadN ag34 rfl (by repeat (first | exact Take1.head | apply Take1.tail)) (by rfl) (show _ = tmC a from rfl)) rfl ?_
  refine WL.y (Yl.loadN ag34 rfl (by repeat (first | exact Take1.head | apply Take1.tail)) (by rfl) (show _ = tmC b from rfl)) rfl ?_
  refine WL.to (To.buildSlice (vs := [tmV a, tmV b]) un25 zs34 rfl rfl (by simp [Value.cells, tmV, tmC]) (by decide) (by decide)) rfl ?_
  intro b7
  rw [show flat [tmV a, tmV b] = vcs tmV [a, b] from rfl]
  refine WL.callC (xs := [_, _, .tmp 7]) (cap := []) rfl rfl en37 (by repeat (first | exact TakeL.nil | (apply TakeL.cons; · repeat (first | exact Take1.head | apply Take1.tail)))) (fun w hw => build_any 2 (by decide) [] bytes_nil (.slice none 0 0) (.slice (some ⟨b7, 0, none⟩) 2 2) [a, b] (by intro o ho; simp at ho; rcases ho with rfl | rfl <;> assumption) (by simp [flO]; omega) w (fun _ _ => Rd.nil _ _) (hw.src (A := []) (RdOf.blk (size := 1) (n := 2) (cs := vcs tmV [a, b]) (cs' := vcs tmV [a, b]) (Nat.le_refl _) (by unfold maxLen; omega) (by simp [vcs, tmV, tmC, flat, Value.cells]) rfl) (by repeat (first | exact Take1.head | apply Take1.tail))) hw.left.here) rfl ?_
  rintro ⟨⟩ -
  rw [two_bld (by decide) (by decide)]
  refine WL.sto (Sto.agg sz34 rfl rfl (by repeat (first | exact Take1.head | apply Take1.tail)) (tm_ones _) rfl (by rfl) (show _ = tmC (mkO 2 a b) from rfl)) (fun _ h => nomatch h) ?_
  refine WL.nil ?_
  refine WC.ret ?_
  repeat (first | (with_reducible refine peelT ?_) | (with_reducible refine peelB ?_) | (with_reducible refine peelTX ?_) | (with_reducible refine peelBX ?_) | (with_reducible refine peelBN ?_) | (with_reducible refine peelBO rfl ?_))
  exact retC1 (cs := tmC (mkO 2 a b)) (.inr rfl) Try.results20 ag34 rfl (by repeat (first | exact Take1.head | apply Take1.tail)) rfl fun w' h => ⟨(), trivial, rfl, h.sub (by repeat (first | exact TakeL.nil | (apply TakeL.cons; · repeat (first | exact Take1.head | apply Take1.tail))))⟩
theorem sealed_any (a b : Option Tm) (ha : OkO a) (hb : OkO b) (hlen : (encO a).length + (encO b).length ≤ 900000) (w : World) (hw : OK w (fpL []) [] w) :
    Fn Try.prog 15 [tmV a, tmV b] [] w (fun _ : Unit => True) (fun _ => tmV (mkO 4 a b)) (fun _ => []) := by
  unfold tmV
  refine enterF Try.func15 rfl Try.ntmps15 rfl hw ?_
  refine WC.seq ?_
  refine WC.region ?_
  refine WL.to (To.box (cs := tmC a) rfl rfl) rfl ?_
  intro b2
  refine WL.to (To.box (cs := tmC b) rfl rfl) rfl ?_
  intro b3
  refine WL.to (To.alloc (cs := [.string (strOfNums [])]) zr34 rfl) rfl ?_
  intro b4
  refine WL.nil ?_
  refine WC.seq ?_
  refine WC.region ?_
  refine WL.y (Yl.loadN ag34 rfl (by repeat (first | exact Take1.head | apply Take1.tail)) (by rfl) (show _ = tmC a from rfl)) rfl ?_
  refine WL.y (Yl.loadN ag34 rfl (by repeat (first | exact Take1.head | apply Take1.tail)) (by rfl) (show _ = tmC b from rfl)) rfl ?_
  refine WL.to (To.buildSlice (vs := [tmV a, tmV b]) un25 zs34 rfl rfl (by simp [Value.cells, tmV, tmC]) (by decide) (by decide)) rfl ?_
  intro b7
  rw [show flat [tmV a, tmV b] = vcs tmV [a, b] from rfl]
  refine WL.callC (xs := [_, _, .tmp 7]) (cap := []) rfl rfl en37 (by repeat (first | exact TakeL.nil | (apply TakeL.cons; · repeat (first | exact Take1.head | apply Take1.tail)))) (fun w hw => build_any 4 (by decide) [] bytes_nil (.slice none 0 0) (.slice (some ⟨b7, 0, none⟩) 2 2) [a, b] (by intro o ho; simp at ho; rcases ho with rfl | rfl <;> assumption) (by simp [flO]; omega) w (fun _ _ => Rd.nil _ _) (hw.src (A := []) (RdOf.blk (size := 1) (n := 2) (cs := vcs tmV [a, b]) (cs' := vcs tmV [a, b]) (Nat.le_refl _) (by unfold maxLen; omega) (by simp [vcs, tmV, tmC, flat, Value.cells]) rfl) (by repeat (first | exact Take1.head | apply Take1.tail))) hw.left.here) rfl ?_
  rintro ⟨⟩ -
  rw [two_bld (by decide) (by decide)]
  refine WL.sto (Sto.agg sz34 rfl rfl (by repeat (first | exact Take1.head | apply Take1.tail)) (tm_ones _) rfl (by rfl) (show _ = tmC (mkO 4 a b) from rfl)) (fun _ h => nomatch h) ?_
  refine WL.nil ?_
  refine WC.ret ?_
  repeat (first | (with_reducible refine peelT ?_) | (with_reducible refine peelB ?_) | (with_reducible refine peelTX ?_) | (with_reducible refine peelBX ?_) | (with_reducible refine peelBN ?_) | (with_reducible refine peelBO rfl ?_))
  exact retC1 (cs := tmC (mkO 4 a b)) (.inr rfl) Try.results15 ag34 rfl (by repeat (first | exact Take1.head | apply Take1.tail)) rfl fun w' h => ⟨(), trivial, rfl, h.sub (by repeat (first | exact TakeL.nil | (apply TakeL.cons; · repeat (first | exact Take1.head | apply Take1.tail))))⟩
theorem public_any (a : Option Tm) (ha : OkO a) (hlen : (encO a).length ≤ 900000) (w : World) (hw : OK w (fpL []) [] w) :
    Fn Try.prog 17 [tmV a] [] w (fun _ : Unit => True) (fun _ => tmV (pubO a)) (fun _ => []) := by
  unfold tmV
  refine enterF Try.func17 rfl Try.ntmps17 rfl hw ?_
  refine WC.seq ?_
  refine WC.region ?_
  refine WL.to (To.box (cs := tmC a) rfl rfl) rfl ?_
  intro b1
  refine WL.to (To.alloc (cs := [.string (strOfNums [])]) zr34 rfl) rfl ?_
  intro b2
  refine WL.nil ?_
  refine WC.seq ?_
  refine WC.region ?_
  refine WL.y (Yl.loadN ag34 rfl (by repeat (first | exact Take1.head | apply Take1.tail)) (by rfl) (show _ = tmC a from rfl)) rfl ?_
  refine WL.to (To.buildSlice (vs := [tmV a]) un25 zs34 rfl rfl (by simp [Value.cells, tmV, tmC]) (by decide) (by decide)) rfl ?_
  intro b4
  rw [show flat [tmV a] = vcs tmV [a] from rfl]
  refine WL.callC (xs := [_, _, .tmp 4]) (cap := []) rfl rfl en37 (by repeat (first | exact TakeL.nil | (apply TakeL.cons; · repeat (first | exact Take1.head | apply Take1.tail)))) (fun w hw => build_any 5 (by decide) [] bytes_nil (.slice none 0 0) (.slice (some ⟨b4, 0, none⟩) 1 1) [a] (by intro o ho; simp at ho; rcases ho with rfl; assumption) (by simp [flO]; omega) w (fun _ _ => Rd.nil _ _) (hw.src (A := []) (RdOf.blk (size := 1) (n := 1) (cs := vcs tmV [a]) (cs' := vcs tmV [a]) (Nat.le_refl _) (by unfold maxLen; omega) (by simp [vcs, tmV, tmC, flat, Value.cells]) rfl) (by repeat (first | exact Take1.head | apply Take1.tail))) hw.left.here) rfl ?_
  rintro ⟨⟩ -
  rw [pub_bld]
  refine WL.sto (Sto.agg sz34 rfl rfl (by repeat (first | exact Take1.head | apply Take1.tail)) (tm_ones _) rfl (by rfl) (show _ = tmC (pubO a) from rfl)) (fun _ h => nomatch h) ?_
  refine WL.nil ?_
  refine WC.ret ?_
  repeat (first | (with_reducible refine peelT ?_) | (with_reducible refine peelB ?_) | (with_reducible refine peelTX ?_) | (with_reducible refine peelBX ?_) | (with_reducible refine peelBN ?_) | (with_reducible refine peelBO rfl ?_))
  exact retC1 (cs := tmC (pubO a)) (.inr rfl) Try.results17 ag34 rfl (by repeat (first | exact Take1.head | apply Take1.tail)) rfl fun w' h => ⟨(), trivial, rfl, h.sub (by repeat (first | exact TakeL.nil | (apply TakeL.cons; · repeat (first | exact Take1.head | apply Take1.tail))))⟩
theorem hash_any (n : Int) (hn : 0 ≤ n ∧ n < 256) (lv : Value) (l : List (Option Tm)) (hl : AllO l) (hlen : l.length ≤ 255 → (flO l).length ≤ 900000000) (w : World) (hy : RdS w (fpL []) lv 1 l.length (vcs tmV l)) (hw : OK w (fpL []) [] w) :
    Fn Try.prog 16 [.int .u8 n, lv] [] w (fun _ : Unit => True) (fun _ => tmV (hashO n l)) (fun _ => []) := by
  obtain ⟨al, cl, rfl, hcl, hml⟩ := hy.rd.form
  refine enterF Try.func16 rfl Try.ntmps16 rfl hw ?_
  refine WC.seq ?_
  refine WC.region ?_
  refine WL.to (To.alloc (cs := [.string (strOfNums [])]) zr34 rfl) rfl ?_
  intro b4
  refine WL.nil ?_
  refine WC.seq ?_
  refine WC.seq ?_
  refine WC.region ?_
  refine WL.y (Yl.move rfl) rfl ?_
  refine WL.y (Yl.len un25 rfl) rfl ?_
  refine WL.y (Yl.gtr rfl rfl) rfl ?_
  refine WL.nil ?_
  refine WC.condD rfl (fun g7 => ?_) (fun g7 => ?_)
  · refine WC.seq ?_
    refine WC.region ?_
    refine WL.y (Yl.build rfl (cs := [.string (strOfNums [])]) (fun _ => by kernel_rfl)) rfl ?_
    refine WL.sto (Sto.agg sz34 rfl rfl (by repeat (first | exact Take1.head | apply Take1.tail)) (tm_ones none) rfl (by rfl) (show _ = tmC none from rfl)) (fun _ h => nomatch h) ?_
    refine WL.nil ?_
    refine WC.ret ?_
    repeat (first | (with_reducible refine peelT ?_) | (with_reducible refine peelB ?_) | (with_reducible refine peelTX ?_) | (with_reducible refine peelBX ?_) | (with_reducible refine peelBN ?_) | (with_reducible refine peelBO rfl ?_))
    have e : hashO n l = none := by unfold hashO; rw [if_neg (by omega)]
    rw [e]
    exact retC1 (cs := tmC none) (.inr rfl) Try.results16 ag34 rfl (by repeat (first | exact Take1.head | apply Take1.tail)) rfl fun w' h => ⟨(), trivial, rfl, h.sub (by repeat (first | exact TakeL.nil | (apply TakeL.cons; · repeat (first | exact Take1.head | apply Take1.tail))))⟩
  · refine WC.skip ?_
    refine WC.seq ?_
    refine WC.region ?_
    refine WL.y (Yl.move rfl) rfl ?_
    refine WL.y (Yl.conv un5 un36 rfl (u64_in _ (by omega))) rfl ?_
    refine WL.callC (xs := [.tmp 10]) (cap := []) rfl rfl en38 (by repeat (first | exact TakeL.nil | (apply TakeL.cons; · repeat (first | exact Take1.head | apply Take1.tail)))) (fun w hw => be_any n (by omega) w hw.left.here) rfl ?_
    rintro ⟨a11, c11⟩ -
    dsimp only [List.cons_append, List.nil_append]
    refine WL.y (Yl.move rfl) rfl ?_
    refine WL.y (Yl.len un25 rfl) rfl ?_
    refine WL.y (Yl.conv un3 un5 rfl (IntWalk.u8_in _ (by omega))) rfl ?_
    refine WL.to (To.buildSlice (vs := [.int .u8 (l.length : Int)]) un75 zs5 rfl rfl (by simp [Value.cells]) (by decide) (by decide)) rfl ?_
    intro b15
    refine WL.to (To.append sl75 rfl rfl (by repeat (first | exact Take1.head | apply Take1.tail)) (Reads.of (RdOf.blk (size := 1) (n := 1) (cs := ints .u8 [(l.length : Int)]) (cs' := ints .u8 [(l.length : Int)]) (Nat.le_refl _) (by unfold maxLen; omega) (by simp [ints]) rfl) (by repeat (first | exact Take1.head | apply Take1.tail))) (ints_one _ _) (show 8 + 1 = (be n 8 ++ [(l.length : Int)]).length by simp [be_len]) (show ints .u8 (be n 8) ++ ints .u8 [(l.length : Int)] = ints .u8 (be n 8 ++ [(l.length : Int)]) by rw [ints_append]) (by simp [be_len]; unfold maxLen; omega) (by simp [be_len])) rfl ?_
    rintro ⟨⟨ao16, c16⟩, hc16⟩
    dsimp only at hc16 ⊢
    refine WL.y (Yl.move rfl) rfl ?_
    refine WL.callC (xs := [_, .tmp 16, .tmp 17]) (cap := []) rfl rfl en37 (by repeat (first | exact TakeL.nil | (apply TakeL.cons; · repeat (first | exact Take1.head | apply Take1.tail)))) (fun w hw => build_any 3 (by decide) (be n 8 ++ [(l.length : Int)]) ((Bytes.be _ _).app (by intro x hx; rw [List.mem_singleton.1 hx]; omega)) (.slice ao16 (be n 8 ++ [(l.length : Int)]).length c16) (.slice al l.length cl) l hl (by have := hlen (by omega); simp [be_len]; omega) w (hw.src (A := []) (r := ownR (.slice ao16 (be n 8 ++ [(l.length : Int)]).length c16) 5 1 (be n 8 ++ [(l.length : Int)]).length (ints .u8 (be n 8 ++ [(l.length : Int)]))) RdOf.own (by repeat (first | exact Take1.head | apply Take1.tail))) (hw.srcS (A := []) hy) hw.left.here) rfl ?_
    rintro ⟨⟩ -
    rw [hash_bld n (by omega)]
    refine WL.sto (Sto.agg sz34 rfl rfl (by repeat (first | exact Take1.head | apply Take1.tail)) (tm_ones _) rfl (by rfl) (show _ = tmC (hashO n l) from rfl)) (fun _ h => nomatch h) ?_
    refine WL.nil ?_
    refine WC.ret ?_
    repeat (first | (with_reducible refine peelT ?_) | (with_reducible refine peelB ?_) | (with_reducible refine peelTX ?_) | (with_reducible refine peelBX ?_) | (with_reducible refine peelBN ?_) | (with_reducible refine peelBO rfl ?_))
    exact retC1 (cs := tmC (hashO n l)) (.inr rfl) Try.results16 ag34 rfl (by repeat (first | exact Take1.head | apply Take1.tail)) rfl fun w' h => ⟨(), trivial, rfl, h.sub (by repeat (first | exact TakeL.nil | (apply TakeL.cons; · repeat (first | exact Take1.head | apply Take1.tail))))⟩
def kdO (o : Option Tm) : Int := match o with
  | none => 0
  | some t => t.kd
theorem enc_kd (t : Tm) (r : List Int) : (t.enc ++ r)[0]? = some t.kd := by
  cases t with
  | mk k n l =>
    obtain ⟨xs, hx⟩ := hd_ne k n l.length
    rw [enc_mk, hx]
    rfl
theorem kind_any (o : Option Tm) (ho : OkO o) (w : World) (hw : OK w (fpL []) [] w) :
    Fn Try.prog 11 [tmV o] [] w (fun _ : Unit => True) (fun _ => .int .u8 (kdO o)) (fun _ => []) := by
  unfold tmV
  refine enterF Try.func11 rfl Try.ntmps11 rfl hw ?_
  refine WC.seq ?_
  refine WC.region ?_
  refine WL.to (To.box (cs := tmC o) rfl rfl) rfl ?_
  intro b1
  refine WL.y (Yl.assign rfl) rfl ?_
  refine WL.nil ?_
  refine WC.seq ?_
  refine WC.seq ?_
  refine WC.region ?_
  refine WL.y (Yl.field fo34_0 rfl) rfl ?_
  refine WL.y (Yl.load on9 rfl (by repeat (first | exact Take1.head | apply Take1.tail)) (by rfl)) rfl ?_
  refine WL.y (Yl.sEqT (encO_bytes ho) bytes_nil rfl rfl) rfl ?_
  refine WL.nil ?_
  refine WC.condD rfl (fun g5 => ?_) (fun g5 => ?_)
  · refine WC.seq ?_
    refine WC.region ?_
    refine WL.y (Yl.assign rfl) rfl ?_
    refine WL.nil ?_
    refine WC.ret ?_
    repeat (first | (with_reducible refine peelT ?_) | (with_reducible refine peelB ?_) | (with_reducible refine peelTX ?_) | (with_reducible refine peelBX ?_) | (with_reducible refine peelBN ?_) | (with_reducible refine peelBO rfl ?_))
    have e := encO_nil.1 g5
    subst e
    exact ret1 (.inr rfl) Try.results11 rfl fun w' h => ⟨(), trivial, rfl, h.sub (by repeat (first | exact TakeL.nil | (apply TakeL.cons; · repeat (first | exact Take1.head | apply Take1.tail))))⟩
  · refine WC.skip ?_
    refine WC.seq ?_
    obtain ⟨t, rfl⟩ : ∃ t, o = some t := by
      cases o with
      | none => exact absurd rfl g5
      | some t => exact ⟨t, rfl⟩
    refine WC.region ?_
    refine WL.y (Yl.field fo34_0 rfl) rfl ?_
    refine WL.y (Yl.load on9 rfl (by repeat (first | exact Take1.head | apply Take1.tail)) (by rfl)) rfl ?_
    refine WL.y (Yl.idxStr (j := 0) un9 rfl rfl (show (encO (some t))[0]? = some t.kd by have := enc_kd t []; rwa [List.append_nil] at this) (encO_bytes ho)) rfl ?_
    refine WL.y (Yl.assign rfl) rfl ?_
    refine WL.nil ?_
    refine WC.ret ?_
    repeat (first | (with_reducible refine peelT ?_) | (with_reducible refine peelB ?_) | (with_reducible refine peelTX ?_) | (with_reducible refine peelBX ?_) | (with_reducible refine peelBN ?_) | (with_reducible refine peelBO rfl ?_))
    exact ret1 (.inr rfl) Try.results11 rfl fun w' h => ⟨(), trivial, rfl, h.sub (by repeat (first | exact TakeL.nil | (apply TakeL.cons; · repeat (first | exact Take1.head | apply Take1.tail))))⟩
theorem hd_shape {k n : Int} {l : List Tm} (h : shp k n l) : (k = 1 ∧ (hdB k n l.length).length = 9 ∧ l.length = 0) ∨ (k = 3 ∧ (hdB k n l.length).length = 10) ∨ (k = 5 ∧ (hdB k n l.length).length = 1 ∧ l.length = 1) ∨ ((k = 2 ∨ k = 4 ∨ k = 6) ∧ (hdB k n l.length).length = 1 ∧ l.length = 2) := by
  unfold shp at h
  rcases h with ⟨rfl, _, rfl⟩ | ⟨h1, _, h3⟩ | ⟨rfl, _, _⟩ | ⟨rfl, _, h3⟩ | ⟨rfl, _, a, b, rfl, _⟩
  · exact .inl ⟨rfl, by simp [hdB, be_len], rfl⟩
  · refine .inr (.inr (.inr ⟨by omega, ?_, h3⟩))
    unfold hdB
    rw [if_neg (by omega), if_neg (by omega)]
    rfl
  · exact .inr (.inl ⟨rfl, by simp [hdB, be_len]⟩)
  · exact .inr (.inr (.inl ⟨rfl, by simp [hdB], h3⟩))
  · exact .inr (.inr (.inr ⟨by omega, by simp [hdB], rfl⟩))
theorem enc_nine {n : Int} {l : List Tm} (r : List Int) : ((Tm.mk 3 n l).enc ++ r)[9]? = some (l.length : Int) := by
  rw [enc_mk]
  have : hdB 3 n l.length = (3 :: be n 8) ++ [(l.length : Int)] := rfl
  rw [this, List.append_assoc, List.append_assoc, List.getElem?_append_right (by simp [be_len])]
  simp [be_len]
theorem head_any (k n : Int) (l : List Tm) (hs : shp k n l) (hk : oks l) (r : List Int) (hr : Bytes r) (w : World) (hw : OK w (fpL []) [] w) :
    Fn Try.prog 31 [.string (strOfNums ((Tm.mk k n l).enc ++ r))] [] w (fun _ : Unit => True) (fun _ => .tuple #[.int .i64 ((hdB k n l.length).length : Int), .int .i64 (l.length : Int)]) (fun _ => []) := by
  have hB : Bytes ((Tm.mk k n l).enc ++ r) := (enc_bytes _ ((ok_mk k n l).2 ⟨hs, hk⟩)).app hr
  have hsh := hd_shape hs
  have hkr := shp_kd hs
  refine enterF Try.func31 rfl Try.ntmps31 rfl hw ?_
  refine WC.seq ?_
  refine WC.region ?_
  refine WL.y (Yl.assign rfl) rfl ?_
  refine WL.y (Yl.assign rfl) rfl ?_
  refine WL.nil ?_
  refine WC.seq ?_
  refine WC.seq ?_
  refine WC.region ?_
  refine WL.y (Yl.move rfl) rfl ?_
  refine WL.y (Yl.idxStr (j := 0) un9 rfl rfl (enc_kd (.mk k n l) r) hB) rfl ?_
  refine WL.nil ?_
  refine WC.block ?_
  refine WC.seq ?_
  refine WC.region ?_
  refine WL.y (Yl.eql rfl rfl) rfl ?_
  refine WL.y (Yl.assign rfl) rfl ?_
  refine WL.nil ?_
  refine WC.condD rfl (fun g6 => ?_) (fun g6 => ?_)
  · refine WC.seq ?_
    refine WC.region ?_
    refine WL.y (Yl.assign rfl) rfl ?_
    refine WL.y (Yl.assign rfl) rfl ?_
    refine WL.nil ?_
    refine WC.ret ?_
    repeat (first | (with_reducible refine peelT ?_) | (with_reducible refine peelB ?_) | (with_reducible refine peelTX ?_) | (with_reducible refine peelBX ?_) | (with_reducible refine peelBN ?_) | (with_reducible refine peelBO rfl ?_))
    have e : (hdB k n l.length).length = 9 ∧ l.length = 0 := by have : k = 1 := g6; omega
    rw [e.1, e.2]
    exact ret2 (.inr rfl) Try.results31 rfl rfl fun w' h => ⟨(), trivial, rfl, h.sub (by repeat (first | exact TakeL.nil | (apply TakeL.cons; · repeat (first | exact Take1.head | apply Take1.tail))))⟩
  · refine WC.seq ?_
    refine WC.region ?_
    refine WL.y (Yl.eql rfl rfl) rfl ?_
    refine WL.y (Yl.assign rfl) rfl ?_
    refine WL.nil ?_
    refine WC.condD rfl (fun g8 => ?_) (fun g8 => ?_)
    · refine WC.seq ?_
      have h3 : k = 3 := g8
      subst h3
      have hl : l.length ≤ 255 := by unfold shp at hs; omega
      refine WC.drawRead mixed (by kernel_rfl) ?_
      refine WH.y (Yl.move rfl) rfl ?_
      refine WH.y (Yl.idxStr (j := 9) un9 rfl rfl (enc_nine r) hB) rfl ?_
      refine WH.y (Yl.conv un5 un3 rfl (IntWalk.i64_in _ (by omega))) rfl ?_
      refine WH.y (Yl.assign rfl) rfl ?_
      refine WH.y (Yl.assign rfl) rfl ?_
      refine WH.nil ?_
      refine WC.ret ?_
      repeat (first | (with_reducible refine peelT ?_) | (with_reducible refine peelB ?_) | (with_reducible refine peelTX ?_) | (with_reducible refine peelBX ?_) | (with_reducible refine peelBN ?_) | (with_reducible refine peelBO rfl ?_))
      have e : (hdB 3 n l.length).length = 10 := by omega
      rw [e]
      exact ret2 (.inr rfl) Try.results31 rfl rfl fun w' h => ⟨(), trivial, rfl, h.sub (by repeat (first | exact TakeL.nil | (apply TakeL.cons; · repeat (first | exact Take1.head | apply Take1.tail))))⟩
    · refine WC.seq ?_
      refine WC.region ?_
      refine WL.y (Yl.eql rfl rfl) rfl ?_
      refine WL.y (Yl.assign rfl) rfl ?_
      refine WL.nil ?_
      refine WC.condD rfl (fun g13 => ?_) (fun g13 => ?_)
      · refine WC.seq ?_
        refine WC.region ?_
        refine WL.y (Yl.assign rfl) rfl ?_
        refine WL.y (Yl.assign rfl) rfl ?_
        refine WL.nil ?_
        refine WC.ret ?_
        repeat (first | (with_reducible refine peelT ?_) | (with_reducible refine peelB ?_) | (with_reducible refine peelTX ?_) | (with_reducible refine peelBX ?_) | (with_reducible refine peelBN ?_) | (with_reducible refine peelBO rfl ?_))
        have e : (hdB k n l.length).length = 1 ∧ l.length = 1 := by have : k = 5 := g13; omega
        rw [e.1, e.2]
        exact ret2 (.inr rfl) Try.results31 rfl rfl fun w' h => ⟨(), trivial, rfl, h.sub (by repeat (first | exact TakeL.nil | (apply TakeL.cons; · repeat (first | exact Take1.head | apply Take1.tail))))⟩
      · refine WC.skip ?_
        refine WC.seq ?_
        refine WC.region ?_
        refine WL.y (Yl.assign rfl) rfl ?_
        refine WL.y (Yl.assign rfl) rfl ?_
        refine WL.nil ?_
        refine WC.ret ?_
        repeat (first | (with_reducible refine peelT ?_) | (with_reducible refine peelB ?_) | (with_reducible refine peelTX ?_) | (with_reducible refine peelBX ?_) | (with_reducible refine peelBN ?_) | (with_reducible refine peelBO rfl ?_))
        have e : (hdB k n l.length).length = 1 ∧ l.length = 2 := by
          have h1 : ¬ k = 1 := g6
          have h3 : ¬ k = 3 := g8
          have h5 : ¬ k = 5 := g13
          omega
        rw [e.1, e.2]
        exact ret2 (.inr rfl) Try.results31 rfl rfl fun w' h => ⟨(), trivial, rfl, h.sub (by repeat (first | exact TakeL.nil | (apply TakeL.cons; · repeat (first | exact Take1.head | apply Take1.tail))))⟩
end Go.Proofs.Ytifhkjcimhhaiaa
