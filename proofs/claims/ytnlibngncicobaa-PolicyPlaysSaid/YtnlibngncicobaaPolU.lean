/- Policies: the bytes: the walk. -/
import Derived.Test.YtnlibngncicobaaPolD
import Derived.Test.YtnlibngncicobaaWireC
namespace Go.Proofs.Ytnlibngncicobaa
open Go Go.RowKit
theorem mnyOk {lim : Int} {bs : List Int} {most : Int} {n : Nat} (h1 : (n : Int) ≤ most) (h2 : (n : Int) < 65536) (h : (bs.length : Int) + 2 ≤ lim) : mny lim (bs, false) most n = (bs ++ be n 2, false) := by
  unfold mny
  have e : decide ((if (65535 : Int) < most then 65535 else most) < (n : Int)) = false := by
    simp only [decide_eq_false_iff_not]; split <;> omega
  rw [e, Bool.or_false, IntWalk.u16_in _ (by omega)]
  exact pt_ok (by rw [be_len]; omega)
/-- A rule's bytes. -/
def encU (r : Ru) : List Int := [r.acc] ++ (be r.fr 4 ++ be r.tt 4) ++ [r.dO] ++ flagB r.ag
theorem encU_len (r : Ru) : (encU r).length = 11 := by simp [encU, be_len, flagB]
def rlB (l : List Ru) : List Int := (l.map encU).flatten
theorem rlB_len (l : List Ru) : (rlB l).length = 11 * l.length := by
  unfold rlB
  induction l with
  | nil => rfl
  | cons d l ih => rw [List.map_cons, List.flatten_cons, List.length_append, ih, List.length_cons, encU_len]; omega
theorem rlB_snoc {l : List Ru} {d : Ru} : rlB (l ++ [d]) = rlB l ++ encU d := by simp [rlB]
/-- A policy's bytes. -/
def polB (p : Po) : List Int := [p.df] ++ be p.rl.length 2 ++ rlB p.rl
theorem polB_len (p : Po) : (polB p).length = 3 + 11 * p.rl.length := by unfold polB; simp [be_len, rlB_len]; omega
theorem b4_two {lim : Int} {bs : List Int} {x y : Int} (h : (bs.length : Int) + 8 ≤ lim) : pts lim (bs, false) (b4 [x, y]) = (bs ++ (be x 4 ++ be y 4), false) := by
  show pt lim (pt lim (bs, false) (be x 4)) (be y 4) = _
  rw [pt_ok (by rw [be_len]; omega), pt_ok (by rw [List.length_append, be_len, be_len]; omega), List.append_assoc]
theorem b1_one {lim : Int} {bs : List Int} {x : Bool} (h : (bs.length : Int) + 1 ≤ lim) : pts lim (bs, false) ([x].map flagB) = (bs ++ flagB x, false) := by
  show pt lim (bs, false) (flagB x) = _
  rw [pt_ok (by simp [flagB]; omega)]
theorem ptOne_any (b : Nat) (x : Option Addr × Nat) (lim : Int) (bs : List Int) (r : Ru) (hr : r.ok) (hlo : -9223372036854775808 ≤ lim ∧ lim ≤ 9223372036854775807) (hsz : (bs.length : Int) + 11 ≤ lim) (hs2 : bs.length + 11 ≤ 140737488355328) (w : World)
    (hw : OK w (fpL (oR b x lim bs false)) (oR b x lim bs false) w) :
    Fn Try.prog 52 [.pointer (some ⟨b, 0, none⟩), ruV r] (oR b x lim bs false) w (fun _ : Option Addr × Nat => True) (fun _ => .tuple #[]) (fun y => oR b y lim (bs ++ encU r) false) := by
  have l1 : (bs ++ [r.acc]).length = bs.length + 1 := by simp
  have l2 : (bs ++ [r.acc] ++ (be r.fr 4 ++ be r.tt 4)).length = bs.length + 9 := by simp [be_len]
  have l3 : (bs ++ [r.acc] ++ (be r.fr 4 ++ be r.tt 4) ++ [r.dO]).length = bs.length + 10 := by simp [be_len]
  have hfr := hr.fr
  have htt := hr.tt
  have e : bs ++ encU r = bs ++ [r.acc] ++ (be r.fr 4 ++ be r.tt 4) ++ [r.dO] ++ flagB r.ag := by simp [encU]
  rw [e]
  obtain ⟨S2, hS2⟩ : ∃ S, bs ++ [r.acc] ++ (be r.fr 4 ++ be r.tt 4) = S := ⟨_, rfl⟩
  rw [hS2] at l2 l3 ⊢
  refine enterF Try.func52 rfl Try.ntmps52 rfl hw ?_
  refine WC.seq ?_
  refine WC.region ?_
  refine WL.to (To.box (cs := r.cells) rfl rfl) rfl ?_
  intro b3
  refine WL.nil ?_
  refine WC.seq ?_
  refine WC.region ?_
  refine WL.y (Yl.move rfl) rfl ?_
  refine WL.y (Yl.field fo24_0 rfl) rfl ?_
  refine WL.y (Yl.load on5 rfl (by repeat (first | exact Take1.head | apply Take1.tail)) (by rfl)) rfl ?_
  refine WL.to (To.buildSlice (vs := [.int .u8 r.acc]) un55 zs5 rfl rfl (by simp [Value.cells]) (by decide) (by decide)) rfl ?_
  intro b7
  refine WL.callC (xs := [.tmp 4, .tmp 7]) (cap := []) rfl rfl en50 (by repeat (first | exact TakeL.nil | (apply TakeL.cons; · repeat (first | exact Take1.head | apply Take1.tail)))) (fun w hw => outU8_any b x lim bs false [r.acc] (.slice (some ⟨b7, 0, none⟩) 1 1) hlo (.inr (by dsimp only; omega)) (by simp; omega) w (hw.src (RdOf.blk (cs := [.int .u8 r.acc]) (Nat.le_refl _) (by unfold maxLen; omega) (by simp) rfl) (by repeat (first | exact Take1.head | apply Take1.tail))) hw.left.here) rfl ?_
  intro y8 _
  rw [pt_ok (by simp; omega)]
  dsimp only
  refine WL.nil ?_
  refine WC.seq ?_
  refine WC.region ?_
  refine WL.y (Yl.move rfl) rfl ?_
  refine WL.y (Yl.field fo24_1 rfl) rfl ?_
  refine WL.y (Yl.load on22 rfl (by repeat (first | exact Take1.head | apply Take1.tail)) (by rfl)) rfl ?_
  refine WL.y (Yl.conv un22 un95 rfl (IntWalk.u32_in _ (by omega))) rfl ?_
  refine WL.y (Yl.field fo24_2 rfl) rfl ?_
  refine WL.y (Yl.load on22 rfl (by repeat (first | exact Take1.head | apply Take1.tail)) (by rfl)) rfl ?_
  refine WL.y (Yl.conv un22 un95 rfl (IntWalk.u32_in _ (by omega))) rfl ?_
  refine WL.to (To.buildSlice (vs := [.int .u32 r.fr, .int .u32 r.tt]) un123 zs95 rfl rfl (by simp [Value.cells]) (by decide) (by decide)) rfl ?_
  intro b16
  refine WL.callC (xs := [.tmp 9, .tmp 16]) (cap := []) rfl rfl en53 (by repeat (first | exact TakeL.nil | (apply TakeL.cons; · repeat (first | exact Take1.head | apply Take1.tail)))) (fun w hw => outU32_any b y8 lim (bs ++ [r.acc]) false [r.fr, r.tt] (.slice (some ⟨b16, 0, none⟩) 2 2) hlo (.inr (by dsimp only; omega)) (by rw [l1]; simp [b4, total, be_len]; omega) (by intro x hx; simp at hx; rcases hx with rfl | rfl <;> omega) w (hw.src (RdOf.blk (cs := [.int .u32 r.fr, .int .u32 r.tt]) (Nat.le_refl _) (by unfold maxLen; omega) (by simp) rfl) (by repeat (first | exact Take1.head | apply Take1.tail))) hw.left.here) rfl ?_
  intro y17 _
  rw [b4_two (by omega), hS2]
  dsimp only
  refine WL.nil ?_
  refine WC.seq ?_
  refine WC.region ?_
  refine WL.y (Yl.move rfl) rfl ?_
  refine WL.y (Yl.field fo24_3 rfl) rfl ?_
  refine WL.y (Yl.load on5 rfl (by repeat (first | exact Take1.head | apply Take1.tail)) (by rfl)) rfl ?_
  refine WL.to (To.buildSlice (vs := [.int .u8 r.dO]) un55 zs5 rfl rfl (by simp [Value.cells]) (by decide) (by decide)) rfl ?_
  intro b21
  refine WL.callC (xs := [.tmp 18, .tmp 21]) (cap := []) rfl rfl en50 (by repeat (first | exact TakeL.nil | (apply TakeL.cons; · repeat (first | exact Take1.head | apply Take1.tail)))) (fun w hw => outU8_any b y17 lim S2 false [r.dO] (.slice (some ⟨b21, 0, none⟩) 1 1) hlo (.inr (by dsimp only; omega)) (by rw [l2]; simp; omega) w (hw.src (RdOf.blk (cs := [.int .u8 r.dO]) (Nat.le_refl _) (by unfold maxLen; omega) (by simp) rfl) (by repeat (first | exact Take1.head | apply Take1.tail))) hw.left.here) rfl ?_
  intro y22 _
  rw [pt_ok (by rw [l2]; simp; omega)]
  dsimp only
  refine WL.nil ?_
  refine WC.region ?_
  refine WL.y (Yl.move rfl) rfl ?_
  refine WL.y (Yl.field fo24_4 rfl) rfl ?_
  refine WL.y (Yl.load on4 rfl (by repeat (first | exact Take1.head | apply Take1.tail)) (by rfl)) rfl ?_
  refine WL.to (To.buildSlice (vs := [.bool r.ag]) un84 zs4 rfl rfl (by simp [Value.cells]) (by decide) (by decide)) rfl ?_
  intro b26
  refine WL.callC (xs := [.tmp 23, .tmp 26]) (cap := []) rfl rfl en54 (by repeat (first | exact TakeL.nil | (apply TakeL.cons; · repeat (first | exact Take1.head | apply Take1.tail)))) (fun w hw => outFlag_any b y22 lim (S2 ++ [r.dO]) false [r.ag] (.slice (some ⟨b26, 0, none⟩) 1 1) hlo (.inr (by dsimp only; omega)) (by rw [l3]; simp [flagB, total]; omega) w (hw.src (RdOf.blk (cs := [.bool r.ag]) (Nat.le_refl _) (by unfold maxLen; omega) (by simp) rfl) (by repeat (first | exact Take1.head | apply Take1.tail))) hw.left.here) rfl ?_
  intro y27 _
  rw [b1_one (by omega)]
  dsimp only
  refine WL.nil ?_
  repeat (first | (with_reducible refine peelT ?_) | (with_reducible refine peelB ?_) | (with_reducible refine peelTX ?_) | (with_reducible refine peelBX ?_) | (with_reducible refine peelBN ?_) | (with_reducible refine peelBO rfl ?_))
  exact ret0 (.inl rfl) Try.results52 fun w' h => ⟨y27, trivial, rfl, h.sub (by repeat (first | exact TakeL.nil | (apply TakeL.cons; · repeat (first | exact Take1.head | apply Take1.tail))))⟩
theorem plist_any (b : Nat) (x : Option Addr × Nat) (lim : Int) (bs : List Int) (ms : List Ru) (lv : Value) (hms : UOk ms) (hlo : -9223372036854775808 ≤ lim ∧ lim ≤ 9223372036854775807) (hsz : (bs.length : Int) + 2 + 11 * ms.length ≤ lim) (hs2 : bs.length + 2 + 11 * ms.length ≤ 140737488355328) (hm : ms.length ≤ 64) (w : World)
    (hx : RdS w (fpL (oR b x lim bs false)) lv 5 ms.length (vcs ruV ms)) (hw : OK w (fpL (oR b x lim bs false)) (oR b x lim bs false) w) :
    Fn Try.prog 51 [.pointer (some ⟨b, 0, none⟩), .int .i64 64, lv, .func (.func 52) #[] #[]] (oR b x lim bs false) w (fun _ : Option Addr × Nat => True) (fun _ => .tuple #[]) (fun y => oR b y lim (bs ++ be ms.length 2 ++ rlB ms) false) := by
  obtain ⟨al, cl, rfl, hcl, hml⟩ := hx.rd.form
  refine enterF Try.func51 rfl Try.ntmps51 rfl hw ?_
  refine WC.seq ?_
  refine WC.seq ?_
  refine WC.region ?_
  refine WL.y (Yl.move rfl) rfl ?_
  refine WL.y (Yl.nilNe un99 rfl rfl) rfl ?_
  refine WL.nil ?_
  refine WC.condT rfl (by first | rfl | (simp; done) | (simp; omega)) ?_
  refine WC.region ?_
  refine WL.y (Yl.move rfl) rfl ?_
  refine WL.y (Yl.move rfl) rfl ?_
  refine WL.y (Yl.nilCheck rfl) rfl ?_
  refine WL.y (Yl.field fo121_2 rfl) rfl ?_
  refine WL.y (Yl.load on4 rfl (by repeat (first | exact Take1.head | apply Take1.tail)) (by rfl)) rfl ?_
  refine WL.know (t := 16) (b' := false) rfl (by first | rfl | (simp; done) | (simp; omega)) ?_
  refine WL.y (Yl.move rfl) rfl ?_
  refine WL.on rfl rfl ?_
  refine WL.y (Yl.move rfl) rfl ?_
  refine WL.on rfl rfl ?_
  refine WL.y (Yl.eqlG rfl rfl (b := false) (fun w => by kernel_rfl)) rfl ?_
  refine WL.know (t := 19) (b' := false) rfl (by first | rfl | (simp; done) | (simp; omega)) ?_
  refine WL.y (Yl.pickF rfl rfl) rfl ?_
  refine WL.y (Yl.move rfl) rfl ?_
  refine WL.on rfl rfl ?_
  refine WL.y (Yl.move rfl) rfl ?_
  refine WL.on rfl rfl ?_
  refine WL.y (Yl.lss rfl rfl) rfl ?_
  refine WL.know (t := 23) (b' := false) rfl (by first | rfl | (simp; done) | (simp; omega)) ?_
  refine WL.y (Yl.pickF rfl rfl) rfl ?_
  refine WL.y (Yl.nilCheck rfl) rfl ?_
  refine WL.y (Yl.field fo121_2 rfl) rfl ?_
  refine WL.sto (Sto.one sz4 rfl rfl (by repeat (first | exact Take1.head | apply Take1.tail)) rfl (by rfl) (by rfl)) (fun _ h => nomatch h) ?_
  refine WL.nil ?_
  refine WC.seq ?_
  refine WC.seq ?_
  refine WC.region ?_
  refine WL.y (Yl.move rfl) rfl ?_
  refine WL.y (Yl.move rfl) rfl ?_
  refine WL.y (Yl.move rfl) rfl ?_
  refine WL.y (Yl.len un64 rfl) rfl ?_
  refine WL.callC (xs := [.tmp 27, .tmp 28, .tmp 30]) (cap := []) rfl rfl en69 (by repeat (first | exact TakeL.nil | (apply TakeL.cons; · repeat (first | exact Take1.head | apply Take1.tail)))) (fun w hw => outMany_any b x lim bs false 64 ms.length hlo (.inr (by dsimp only; omega)) (by omega) w hw.left.here) rfl ?_
  intro y31 _
  rw [mnyOk (by omega) (by omega) (by omega)]
  dsimp only
  refine WL.know (t := 31) (b' := true) rfl (by first | rfl | (simp; done) | (simp; omega)) ?_
  refine WL.y (Yl.not rfl) rfl ?_
  refine WL.nil ?_
  refine WC.condF rfl (by first | rfl | (simp; done) | (simp; omega)) ?_
  refine WC.skip ?_
  refine WC.seq ?_
  refine WC.region ?_
  refine WL.y (Yl.move rfl) rfl ?_
  refine WL.y (Yl.len un64 rfl) rfl ?_
  refine WL.y (Yl.move rfl) rfl ?_
  refine WL.nil ?_
  refine WC.block ?_
  refine WC.loop (α := Nat × (Option Addr × Nat)) (fun p => [(0, .pointer (some ⟨b, 0, none⟩)), (3, .func (.func 52) #[] #[]), (33, .slice al ms.length cl), (34, .int .i64 (ms.length : Int)), (35, .int .i64 (p.1 : Int))]) (fun p => oR b p.2 lim (bs ++ be ms.length 2 ++ rlB (ms.take p.1)) false) (fun p => p.1 ≤ ms.length) (fun p => ms.length - p.1) (0, y31) (Nat.zero_le _) ⟨(by repeat (first | exact Sub.nil | refine Sub.cons rfl ?_)), _, (by rw [show bs ++ be ms.length 2 ++ rlB (ms.take (0, y31).1) = bs ++ be ms.length 2 by simp [rlB]]; exact (by repeat (first | exact TakeL.nil | (apply TakeL.cons; · repeat (first | exact Take1.head | apply Take1.tail)))))⟩ ?_
  rintro ⟨j, y⟩ hj
  dsimp only at hj ⊢
  refine WC.seq ?_
  refine WC.region ?_
  refine WL.y (Yl.lss rfl rfl) rfl ?_
  refine WL.nil ?_
  refine WC.seq ?_
  refine WC.condD rfl (fun g36 => ?_) (fun g36 => ?_)
  · refine WC.skip ?_
    refine WC.seq ?_
    refine WC.block ?_
    refine WC.seq ?_
    refine WC.region ?_
    obtain ⟨d, hdd⟩ : ∃ d, ms[j]? = some d := ⟨_, List.getElem?_eq_getElem (by omega)⟩
    have hl1 : (bs ++ be ms.length 2 ++ rlB (ms.take j)).length = bs.length + 2 + 11 * j := by rw [List.length_append, List.length_append, be_len, rlB_len, List.length_take, Nat.min_eq_left hj]
    refine WL.y (Yl.index un64 sz24 rfl rfl (Reads.s hx) rfl (by omega)) rfl ?_
    refine WL.y (Yl.loadV (j := j) (u := d) vtU hms rfl (Reads.s hx) rfl hdd) rfl ?_
    refine WL.to (To.alloc (cs := Ru.zero.cells) zr24 rfl) rfl ?_
    intro b9
    refine WL.sto (Sto.agg sz24 rfl rfl (by repeat (first | exact Take1.head | apply Take1.tail)) (Ru.ones _) (Ru.len d) (by rfl) (Ru.all Ru.zero d.cells (Ru.len d))) (fun _ h => nomatch h) ?_
    refine WL.nil ?_
    refine WC.region ?_
    refine WL.y (Yl.move rfl) rfl ?_
    refine WL.y (Yl.move rfl) rfl ?_
    refine WL.y (Yl.loadN ag24 rfl (by repeat (first | exact Take1.head | apply Take1.tail)) (by rfl) (Ru.call d)) rfl ?_
    refine WL.callC (f := .tmp 39) (xs := [.tmp 40, .tmp 41]) (cap := []) rfl rfl en52 (by repeat (first | exact TakeL.nil | (apply TakeL.cons; · repeat (first | exact Take1.head | apply Take1.tail)))) (fun w hw => ptOne_any b y lim (bs ++ be ms.length 2 ++ rlB (ms.take j)) d (hms.get hdd) hlo (by rw [hl1]; omega) (by rw [hl1]; omega) w hw.left.here) rfl ?_
    intro y2 _
    rw [List.append_assoc _ (rlB _), ← rlB_snoc, take_snoc _ _ _ hdd]
    refine WL.nil ?_
    refine WC.region ?_
    refine WL.y (Yl.add rfl rfl (IntWalk.i64_in _ (by omega))) rfl ?_
    refine WL.y (Yl.move rfl) rfl ?_
    refine WL.nil ?_
    exact ⟨rfl, (j + 1, y2), by dsimp only; omega, by dsimp only; omega, (by repeat (first | exact Sub.nil | refine Sub.cons rfl ?_)), _, (by repeat (first | exact TakeL.nil | (apply TakeL.cons; · repeat (first | exact Take1.head | apply Take1.tail))))⟩
  · refine WC.exit ?_
    repeat (first | (with_reducible refine peelT ?_) | (with_reducible refine peelB ?_) | (with_reducible refine peelTX ?_) | (with_reducible refine peelBX ?_) | (with_reducible refine peelBN ?_) | (with_reducible refine peelBO rfl ?_))
    have hj2 : j = ms.length := by omega
    exact ret0 (.inl rfl) Try.results51 fun w' h => ⟨y, trivial, rfl, by rw [hj2, List.take_length] at h; exact h.sub (by repeat (first | exact TakeL.nil | (apply TakeL.cons; · repeat (first | exact Take1.head | apply Take1.tail))))⟩
set_option maxRecDepth 100000 in
theorem bytesP_any (b : Nat) (ao : Option Addr) (ca : Nat) (p : Po) (hp : p.ok) (w : World) (hw : OK w (fpL [roR (blkR b 80 (p.cells (.slice ao p.rl.length ca))), rdR (.slice ao p.rl.length ca) 5 p.rl.length (vcs ruV p.rl)]) [roR (blkR b 80 (p.cells (.slice ao p.rl.length ca))), rdR (.slice ao p.rl.length ca) 5 p.rl.length (vcs ruV p.rl)] w) :
    Fn Try.prog 24 [.pointer (some ⟨b, 0, none⟩)] [roR (blkR b 80 (p.cells (.slice ao p.rl.length ca))), rdR (.slice ao p.rl.length ca) 5 p.rl.length (vcs ruV p.rl)] w (fun _ : Option Addr × Nat => True) (fun y => .slice y.1 (polB p).length y.2) (fun y => [ownR (.slice y.1 (polB p).length y.2) 5 1 (polB p).length (ints .u8 (polB p))]) := by
  have hlen := hp.len
  have hl := polB_len p
  have hlo : -9223372036854775808 ≤ (4096 : Int) ∧ (4096 : Int) ≤ 9223372036854775807 := by omega
  refine enterF Try.func24 rfl Try.ntmps24 rfl hw ?_
  refine WC.seq ?_
  refine WC.region ?_
  refine WL.y (Yl.assign rfl) rfl ?_
  refine WL.nil ?_
  refine WC.seq ?_
  refine WC.seq ?_
  refine WC.region ?_
  refine WL.y (Yl.move rfl) rfl ?_
  refine WL.y (Yl.nilEq un33 rfl rfl) rfl ?_
  refine WL.know (t := 7) (b' := false) rfl (by first | rfl | (simp; done) | (simp; omega)) ?_
  refine WL.nil ?_
  refine WC.condF rfl (by first | rfl | (simp; done) | (simp; omega)) ?_
  refine WC.skip ?_
  refine WC.seq ?_
  refine WC.region ?_
  refine WL.callC (xs := [_]) (cap := []) rfl rfl en49 (by repeat (first | exact TakeL.nil | (apply TakeL.cons; · repeat (first | exact Take1.head | apply Take1.tail)))) (fun w hw => newOut_any 4096 w hw.left.here) rfl ?_
  intro b8 _
  refine WL.y (Yl.assign rfl) rfl ?_
  refine WL.nil ?_
  refine WC.seq ?_
  refine WC.region ?_
  refine WL.y (Yl.move rfl) rfl ?_
  refine WL.y (Yl.move rfl) rfl ?_
  refine WL.y (Yl.nilCheck rfl) rfl ?_
  refine WL.y (Yl.field fo80_0 rfl) rfl ?_
  refine WL.y (Yl.loadRo on5 rfl (by repeat (first | exact Take1.head | apply Take1.tail)) (by rfl)) rfl ?_
  refine WL.to (To.buildSlice (vs := [.int .u8 p.df]) un55 zs5 rfl rfl (by simp [Value.cells]) (by decide) (by decide)) rfl ?_
  intro b14
  refine WL.callC (xs := [.tmp 9, .tmp 14]) (cap := []) rfl rfl en50 (by repeat (first | exact TakeL.nil | (apply TakeL.cons; · repeat (first | exact Take1.head | apply Take1.tail)))) (fun w hw => outU8_any b8 (none, 0) 4096 [] false [p.df] (.slice (some ⟨b14, 0, none⟩) 1 1) hlo (.inl rfl) (by simp) w (hw.src (RdOf.blk (cs := [.int .u8 p.df]) (Nat.le_refl _) (by unfold maxLen; omega) (by simp) rfl) (by repeat (first | exact Take1.head | apply Take1.tail))) hw.left.here) rfl ?_
  intro y15 _
  rw [show pt 4096 ([], false) [p.df] = ([p.df], false) from pt_ok (by simp)]
  dsimp only
  refine WL.nil ?_
  refine WC.seq ?_
  refine WC.region ?_
  refine WL.y (Yl.move rfl) rfl ?_
  refine WL.y (Yl.move rfl) rfl ?_
  refine WL.y (Yl.nilCheck rfl) rfl ?_
  refine WL.y (Yl.field fo80_1 rfl) rfl ?_
  refine WL.y (Yl.loadRo on64 rfl (by repeat (first | exact Take1.head | apply Take1.tail)) (by rfl)) rfl ?_
  refine WL.callC (xs := [.tmp 16, _, .tmp 20, .func 52]) (cap := []) rfl rfl en51 (by repeat (first | exact TakeL.nil | (apply TakeL.cons; · repeat (first | exact Take1.head | apply Take1.tail)))) (fun w hw => plist_any b8 y15 4096 [p.df] p.rl (.slice ao p.rl.length ca) (UOk.of hp) hlo (by simp; omega) (by simp; omega) (by omega) w (hw.src (r := rdR (.slice ao p.rl.length ca) 5 p.rl.length (vcs ruV p.rl)) RdOf.rd' (by repeat (first | exact Take1.head | apply Take1.tail))) hw.left.here) rfl ?_
  intro y21 _
  rw [show [p.df] ++ be p.rl.length 2 ++ rlB p.rl = polB p from rfl]
  refine WL.nil ?_
  refine WC.seq ?_
  refine WC.region ?_
  refine WL.y (Yl.move rfl) rfl ?_
  refine WL.callC (xs := [.tmp 23]) (cap := []) rfl rfl en55 (by repeat (first | exact TakeL.nil | (apply TakeL.cons; · repeat (first | exact Take1.head | apply Take1.tail)))) (fun w hw => outBytes_ok b8 y21 4096 (polB p) (by omega) (by omega) w hw.left.here) rfl ?_
  intro y24 _
  refine WL.y (Yl.move rfl) rfl ?_
  refine WL.y (Yl.extract rfl rfl) rfl ?_
  refine WL.y (Yl.extract rfl rfl) rfl ?_
  refine WL.y (Yl.assign rfl) rfl ?_
  refine WL.y (Yl.assign rfl) rfl ?_
  refine WL.nil ?_
  refine WC.seq ?_
  refine WC.region ?_
  refine WL.y (Yl.move rfl) rfl ?_
  refine WL.y (Yl.assign rfl) rfl ?_
  refine WL.nil ?_
  refine WC.ret ?_
  repeat (first | (with_reducible refine peelT ?_) | (with_reducible refine peelB ?_) | (with_reducible refine peelTX ?_) | (with_reducible refine peelBX ?_) | (with_reducible refine peelBN ?_) | (with_reducible refine peelBO rfl ?_))
  exact ret1 (.inr rfl) Try.results24 rfl fun w' h => ⟨y24, trivial, rfl, h.sub (by repeat (first | exact TakeL.nil | (apply TakeL.cons; · repeat (first | exact Take1.head | apply Take1.tail))))⟩
theorem bytesK_any (b : Nat) (ao : Option Addr) (ca : Nat) (p : Po) (hp : p.ok) (w : World) (hw : OK w (fpL (polR b ao ca p)) (polR b ao ca p) w) :
    Fn Try.prog 24 [.pointer (some ⟨b, 0, none⟩)] (polR b ao ca p) w (fun _ : Option Addr × Nat => True) (fun y => .slice y.1 (polB p).length y.2) (fun y => ownR (.slice y.1 (polB p).length y.2) 5 1 (polB p).length (ints .u8 (polB p)) :: polR b ao ca p) :=
  Fn.keepN (B := fun y : Option Addr × Nat => [ownR (.slice y.1 (polB p).length y.2) 5 1 (polB p).length (ints .u8 (polB p))]) (fun y s hs k hk => by rw [List.mem_singleton.1 hs] at hk ⊢; exact hk) (fun hw => bytesP_any b ao ca p hp w hw) hw
end Go.Proofs.Ytnlibngncicobaa
