/- PolicyLoads: the law. -/
import Derived.Test.YtnlibngncicobaaPolSa
import Derived.Test.YtnlibngncicobaaLibM
import Derived.Test.YtnlibngncicobaaLibX
namespace Go.Proofs.Ytnlibngncicobaa
open Go Go.RowKit
theorem loadNo_any (xv : Value) (bs : List Int) (hB : Bytes bs) (hs : bs.length ≤ 1000000) (hd : ldO bs = false) (w : World) (hx : RdS w (fpL []) xv 1 bs.length (ints .u8 bs)) (hw : OK w (fpL []) [] w) :
    Fn Try.prog 23 [xv] [] w (fun _ : Unit => True) (fun _ => .tuple #[.pointer none, .int .i64 9]) (fun _ => []) := by
  cases ht : telU (ldF bs) with
  | false => exact loadBad_any xv bs hB hs ht w hx hw
  | true =>
    refine Calls.mono (loadP_any xv bs hB hs ht w hx hw) ?_
    rintro e w' ⟨y, _, h2, h3⟩
    rw [hd] at h2 h3
    exact ⟨(), trivial, h2, h3⟩
theorem loadYes_any (xv : Value) (bs : List Int) (hB : Bytes bs) (hs : bs.length ≤ 1000000) (hd : ldO bs = true) (w : World) (hx : RdS w (fpL []) xv 1 bs.length (ints .u8 bs)) (hw : OK w (fpL []) [] w) :
    Fn Try.prog 23 [xv] [] w (fun _ : Nat × Option Addr × Nat => True) (fun y => .tuple #[.pointer (some ⟨y.1, 0, none⟩), .int .i64 0]) (fun y => polR y.1 y.2.1 y.2.2 (ldP bs)) := by
  have ht : telU (ldF bs) = true := by
    unfold ldO at hd
    simp only [Bool.and_eq_true] at hd
    exact hd.1.1.1
  refine Calls.mono (loadP_any xv bs hB hs ht w hx hw) ?_
  rintro e w' ⟨y, _, h2, h3⟩
  rw [hd] at h2 h3
  exact ⟨y, trivial, h2, h3⟩
theorem load_is {bs : List Int} (hB : Bytes bs) (h : rOk bs = true) : (ldP bs).ok ∧ ldO bs = true ∧ rldP bs = ldP bs ∧ polB (ldP bs) = bs := by
  obtain ⟨h1, h2⟩ := ld_main hB
  obtain ⟨e1, e2, e3⟩ := h2 h
  obtain ⟨k1, k2, k3, k4, k5, k6, k7⟩ := rOk_is h
  have hb2 := hB.getD (i := 2) (by omega)
  have hl : (rLs bs).length = (bs.getD 2 0).toNat := by simp [rLs]
  refine ⟨⟨?_, ?_, ?_, rfl, ?_, rfl⟩, by rw [h1, h], ?_, ?_⟩
  · show 1 ≤ ldF bs ∧ ldF bs ≤ 3
    rw [e1]; exact ⟨k2, k3⟩
  · intro r hr
    have hr : r ∈ ldL bs := hr
    rw [e2] at hr
    obtain ⟨j, hj, rfl⟩ := List.mem_map.1 hr
    have hj := List.mem_range.1 hj
    refine ⟨rA_ok hB (by omega), ?_⟩
    have := k7 j hj
    unfold okA at this
    simp only [Bool.and_eq_true] at this
    exact this.2
  · show (ldL bs).length ≤ 64
    rw [e2, hl]; omega
  · intro x hx
    have hx : x ∈ List.replicate 8 (0 : Int) := hx
    rw [List.eq_of_mem_replicate hx]
    omega
  · unfold rldP ldP
    rw [h, if_pos rfl, e1, e2]
  · show [ldF bs] ++ be (ldL bs).length 2 ++ rlB (ldL bs) = bs
    exact e3.symm
theorem load_not {bs : List Int} (hB : Bytes bs) (h : rOk bs = false) : ldO bs = false := by rw [(ld_main hB).1, h]
set_option maxRecDepth 100000 in
theorem loadsNo_any (al : Option Addr) (cl : Nat) (bs : List Int) (hB : Bytes bs) (hn : rOk bs = false) (w : World) (hw : OK w (fpL [rdR (.slice al bs.length cl) 1 bs.length (ints .u8 bs)]) [rdR (.slice al bs.length cl) 1 bs.length (ints .u8 bs)] w) :
    Fn Try.prog 5 [.slice al bs.length cl] [rdR (.slice al bs.length cl) 1 bs.length (ints .u8 bs)] w (fun _ : Unit => True) (fun _ => .bool true) (fun _ => []) := by
  refine enterF Try.func5 rfl Try.ntmps5 rfl hw ?_
  refine WC.seq ?_
  refine WC.region ?_
  refine WL.y (Yl.assign rfl) rfl ?_
  refine WL.nil ?_
  refine WC.seq ?_
  refine WC.seq ?_
  refine WC.region ?_
  refine WL.callC (xs := []) (cap := []) rfl rfl en8 (by repeat (first | exact TakeL.nil | (apply TakeL.cons; · repeat (first | exact Take1.head | apply Take1.tail)))) (fun w hw => known_any w hw.left.here) rfl ?_
  rintro ⟨⟩ -
  refine WL.y (Yl.not rfl) rfl ?_
  refine WL.know (t := 8) (b' := false) rfl (by first | rfl | (simp; done) | (simp; omega)) ?_
  refine WL.nil ?_
  refine WC.condF rfl (by first | rfl | (simp; done) | (simp; omega)) ?_
  refine WC.skip ?_
  refine WC.seq ?_
  refine WC.seq ?_
  refine WC.region ?_
  refine WL.y (Yl.move rfl) rfl ?_
  refine WL.y (Yl.len un55 rfl) rfl ?_
  refine WL.y (Yl.gtr rfl rfl) rfl ?_
  refine WL.nil ?_
  refine WC.condD rfl (fun g11 => ?_) (fun g11 => ?_)
  · refine WC.seq ?_
    refine WC.region ?_
    refine WL.y (Yl.assign rfl) rfl ?_
    refine WL.nil ?_
    refine WC.ret ?_
    repeat (first | (with_reducible refine peelT ?_) | (with_reducible refine peelB ?_) | (with_reducible refine peelTX ?_) | (with_reducible refine peelBX ?_) | (with_reducible refine peelBN ?_) | (with_reducible refine peelBO rfl ?_))
    exact ret1 (.inr rfl) Try.results5 rfl fun w' h => ⟨(), trivial, rfl, h.sub (by repeat (first | exact TakeL.nil | (apply TakeL.cons; · repeat (first | exact Take1.head | apply Take1.tail))))⟩
  · refine WC.skip ?_
    refine WC.seq ?_
    have hs : bs.length ≤ 1000000 := by omega
    refine WC.region ?_
    refine WL.y (Yl.move rfl) rfl ?_
    refine WL.callC (xs := [.tmp 13]) (cap := []) rfl rfl en23 (by repeat (first | exact TakeL.nil | (apply TakeL.cons; · repeat (first | exact Take1.head | apply Take1.tail)))) (fun w hw => loadNo_any (.slice al bs.length cl) bs hB hs (load_not hB hn) w (hw.src (A := []) (r := rdR (.slice al bs.length cl) 1 bs.length (ints .u8 bs)) RdOf.rd' (by repeat (first | exact Take1.head | apply Take1.tail))) hw.left.here) rfl ?_
    rintro ⟨⟩ -
    refine WL.y (Yl.move rfl) rfl ?_
    refine WL.y (Yl.extract rfl rfl) rfl ?_
    refine WL.y (Yl.extract rfl rfl) rfl ?_
    refine WL.y (Yl.assign rfl) rfl ?_
    refine WL.y (Yl.assign rfl) rfl ?_
    refine WL.nil ?_
    refine WC.seq ?_
    refine WC.region ?_
    refine WL.y (Yl.move rfl) rfl ?_
    refine WL.callC (xs := [.tmp 18]) (cap := []) rfl rfl en28 (by repeat (first | exact TakeL.nil | (apply TakeL.cons; · repeat (first | exact Take1.head | apply Take1.tail)))) (fun w hw => rload_any (.slice al bs.length cl) bs hB hs w (hw.src (A := []) (r := rdR (.slice al bs.length cl) 1 bs.length (ints .u8 bs)) RdOf.rd' (by repeat (first | exact Take1.head | apply Take1.tail))) hw.left.here) rfl ?_
    rintro ⟨ao2, ca2⟩ -
    rw [hn]
    dsimp only [List.cons_append, List.nil_append]
    refine WL.y (Yl.move rfl) rfl ?_
    refine WL.y (Yl.extract rfl rfl) rfl ?_
    refine WL.y (Yl.extract rfl rfl) rfl ?_
    have hsz : (rldP bs).sz := by unfold rldP; rw [hn]; exact ⟨rfl, rfl⟩
    refine WL.to (To.alloc (cs := (Po.new 0).rcells (.slice none 0 0)) zr42 rfl) rfl ?_
    intro b5
    refine WL.sto (Sto.agg sz42 rfl rfl (by repeat (first | exact Take1.head | apply Take1.tail)) (Po.rones _ _ rfl) (Po.rlen hsz _) (by rfl) (Po.rall (rldP bs) _ rfl hsz)) (fun _ h => nomatch h) ?_
    refine WL.y (Yl.assign rfl) rfl ?_
    refine WL.nil ?_
    refine WC.seq ?_
    refine WC.seq ?_
    refine WC.region ?_
    refine WL.y (Yl.move rfl) rfl ?_
    refine WL.y (Yl.not rfl) rfl ?_
    refine WL.know (t := 23) (b' := true) rfl (by first | rfl | (simp; done) | (simp; omega)) ?_
    refine WL.nil ?_
    refine WC.condT rfl (by first | rfl | (simp; done) | (simp; omega)) ?_
    refine WC.seq ?_
    refine WC.region ?_
    refine WL.y (Yl.move rfl) rfl ?_
    refine WL.y (Yl.nilEq un33 rfl rfl) rfl ?_
    refine WL.know (t := 25) (b' := true) rfl (by first | rfl | (simp; done) | (simp; omega)) ?_
    refine WL.y (Yl.move rfl) rfl ?_
    refine WL.know (t := 26) (b' := true) rfl (by first | rfl | (simp; done) | (simp; omega)) ?_
    refine WL.on rfl rfl ?_
    refine WL.y (Yl.move rfl) rfl ?_
    refine WL.on rfl rfl ?_
    refine WL.y (Yl.eql rfl rfl) rfl ?_
    refine WL.know (t := 28) (b' := true) rfl (by first | rfl | (simp; done) | (simp; omega)) ?_
    refine WL.y (Yl.pickT rfl rfl) rfl ?_
    refine WL.y (Yl.assign rfl) rfl ?_
    refine WL.nil ?_
    refine WC.ret ?_
    repeat (first | (with_reducible refine peelT ?_) | (with_reducible refine peelB ?_) | (with_reducible refine peelTX ?_) | (with_reducible refine peelBX ?_) | (with_reducible refine peelBN ?_) | (with_reducible refine peelBO rfl ?_))
    exact ret1 (.inr rfl) Try.results5 rfl fun w' h => ⟨(), trivial, rfl, h.sub (by repeat (first | exact TakeL.nil | (apply TakeL.cons; · repeat (first | exact Take1.head | apply Take1.tail))))⟩
set_option maxRecDepth 100000 in
theorem loadsYes_any (al : Option Addr) (cl : Nat) (bs : List Int) (hB : Bytes bs) (hn : rOk bs = true) (w : World) (hw : OK w (fpL [rdR (.slice al bs.length cl) 1 bs.length (ints .u8 bs)]) [rdR (.slice al bs.length cl) 1 bs.length (ints .u8 bs)] w) :
    Fn Try.prog 5 [.slice al bs.length cl] [rdR (.slice al bs.length cl) 1 bs.length (ints .u8 bs)] w (fun _ : Unit => True) (fun _ => .bool true) (fun _ => []) := by
  obtain ⟨hp, hld, hrl, hpb⟩ := load_is hB hn
  have hloadY := loadYes_any (.slice al bs.length cl) bs hB
  have hloadR := rload_any (.slice al bs.length cl) bs hB
  rw [hrl, hn] at hloadR
  obtain ⟨P, hP⟩ : ∃ P, ldP bs = P := ⟨_, rfl⟩
  rw [hP] at hp hpb hloadY hloadR
  have hsz := hp.sz
  refine enterF Try.func5 rfl Try.ntmps5 rfl hw ?_
  refine WC.seq ?_
  refine WC.region ?_
  refine WL.y (Yl.assign rfl) rfl ?_
  refine WL.nil ?_
  refine WC.seq ?_
  refine WC.seq ?_
  refine WC.region ?_
  refine WL.callC (xs := []) (cap := []) rfl rfl en8 (by repeat (first | exact TakeL.nil | (apply TakeL.cons; · repeat (first | exact Take1.head | apply Take1.tail)))) (fun w hw => known_any w hw.left.here) rfl ?_
  rintro ⟨⟩ -
  refine WL.y (Yl.not rfl) rfl ?_
  refine WL.know (t := 8) (b' := false) rfl (by first | rfl | (simp; done) | (simp; omega)) ?_
  refine WL.nil ?_
  refine WC.condF rfl (by first | rfl | (simp; done) | (simp; omega)) ?_
  refine WC.skip ?_
  refine WC.seq ?_
  refine WC.seq ?_
  refine WC.region ?_
  refine WL.y (Yl.move rfl) rfl ?_
  refine WL.y (Yl.len un55 rfl) rfl ?_
  refine WL.y (Yl.gtr rfl rfl) rfl ?_
  refine WL.nil ?_
  refine WC.condD rfl (fun g11 => ?_) (fun g11 => ?_)
  · refine WC.seq ?_
    refine WC.region ?_
    refine WL.y (Yl.assign rfl) rfl ?_
    refine WL.nil ?_
    refine WC.ret ?_
    repeat (first | (with_reducible refine peelT ?_) | (with_reducible refine peelB ?_) | (with_reducible refine peelTX ?_) | (with_reducible refine peelBX ?_) | (with_reducible refine peelBN ?_) | (with_reducible refine peelBO rfl ?_))
    exact ret1 (.inr rfl) Try.results5 rfl fun w' h => ⟨(), trivial, rfl, h.sub (by repeat (first | exact TakeL.nil | (apply TakeL.cons; · repeat (first | exact Take1.head | apply Take1.tail))))⟩
  · refine WC.skip ?_
    refine WC.seq ?_
    have hs : bs.length ≤ 1000000 := by omega
    refine WC.region ?_
    refine WL.y (Yl.move rfl) rfl ?_
    refine WL.callC (xs := [.tmp 13]) (cap := []) rfl rfl en23 (by repeat (first | exact TakeL.nil | (apply TakeL.cons; · repeat (first | exact Take1.head | apply Take1.tail)))) (fun w hw => hloadY hs hld w (hw.src (A := []) (r := rdR (.slice al bs.length cl) 1 bs.length (ints .u8 bs)) RdOf.rd' (by repeat (first | exact Take1.head | apply Take1.tail))) hw.left.here) rfl ?_
    rintro ⟨bp, aoP, caP⟩ -
    dsimp only [polR, List.cons_append, List.nil_append]
    refine WL.y (Yl.move rfl) rfl ?_
    refine WL.y (Yl.extract rfl rfl) rfl ?_
    refine WL.y (Yl.extract rfl rfl) rfl ?_
    refine WL.y (Yl.assign rfl) rfl ?_
    refine WL.y (Yl.assign rfl) rfl ?_
    refine WL.nil ?_
    refine WC.seq ?_
    refine WC.region ?_
    refine WL.y (Yl.move rfl) rfl ?_
    refine WL.callC (xs := [.tmp 18]) (cap := []) rfl rfl en28 (by repeat (first | exact TakeL.nil | (apply TakeL.cons; · repeat (first | exact Take1.head | apply Take1.tail)))) (fun w hw => hloadR hs w (hw.src (A := []) (r := rdR (.slice al bs.length cl) 1 bs.length (ints .u8 bs)) RdOf.rd' (by repeat (first | exact Take1.head | apply Take1.tail))) hw.left.here) rfl ?_
    rintro ⟨ao2, ca2⟩ -
    dsimp only [List.cons_append, List.nil_append]
    refine WL.y (Yl.move rfl) rfl ?_
    refine WL.y (Yl.extract rfl rfl) rfl ?_
    refine WL.y (Yl.extract rfl rfl) rfl ?_
    refine WL.to (To.alloc (cs := (Po.new 0).rcells (.slice none 0 0)) zr42 rfl) rfl ?_
    intro b5
    refine WL.sto (Sto.agg sz42 rfl rfl (by repeat (first | exact Take1.head | apply Take1.tail)) (Po.rones _ _ rfl) (Po.rlen hsz _) (by rfl) (Po.rall P _ rfl hsz)) (fun _ h => nomatch h) ?_
    refine WL.y (Yl.assign rfl) rfl ?_
    refine WL.nil ?_
    refine WC.seq ?_
    refine WC.seq ?_
    refine WC.region ?_
    refine WL.y (Yl.move rfl) rfl ?_
    refine WL.y (Yl.not rfl) rfl ?_
    refine WL.know (t := 23) (b' := false) rfl (by first | rfl | (simp; done) | (simp; omega)) ?_
    refine WL.nil ?_
    refine WC.condF rfl (by first | rfl | (simp; done) | (simp; omega)) ?_
    refine WC.skip ?_
    refine WC.seq ?_
    refine WC.view (fun w h => h.roOne (r := blkR bp 80 (P.cells (.slice aoP P.rl.length caP))) (by repeat (first | exact Take1.head | apply Take1.tail))) ?_
    refine WC.view (fun w h => h.roOne (r := blkR b5 42 (P.rcells (.slice ao2 P.rl.length ca2))) (by repeat (first | exact Take1.head | apply Take1.tail))) ?_
    refine WC.view (fun w h => h.dup (r := roR (blkR bp 80 (P.cells (.slice aoP P.rl.length caP)))) (by repeat (first | exact Take1.head | apply Take1.tail)) (fun _ h => h)) ?_
    refine WC.view (fun w h => h.dup (r := rdR (.slice aoP P.rl.length caP) 5 P.rl.length (vcs ruV P.rl)) (by repeat (first | exact Take1.head | apply Take1.tail)) (fun _ h => h)) ?_
    refine WC.drawAny (Hs := [rdR (.slice al bs.length cl) 1 bs.length (ints .u8 bs)]) mixed (by kernel_rfl) ⟨_, (by repeat (first | exact TakeL.nil | (apply TakeL.cons; · repeat (first | exact Take1.head | apply Take1.tail))))⟩ ?_
    refine WD.take 0 rfl (by kernel_rfl) (by kernel_rfl) (by kernel_rfl) rfl rfl (Yl.move rfl) rfl ?_
    refine WD.take 1 rfl (by kernel_rfl) (by kernel_rfl) (by kernel_rfl) rfl rfl (Yl.eql rfl rfl) rfl ?_
    refine WD.know (t := 31) (b' := true) rfl (by first | rfl | (simp; done) | (simp; omega)) ?_
    refine WD.take 2 rfl (by kernel_rfl) (by kernel_rfl) (by kernel_rfl) rfl rfl (Yl.move rfl) rfl ?_
    refine WD.know (t := 32) (b' := true) rfl (by first | rfl | (simp; done) | (simp; omega)) ?_
    refine WD.takeOn 3 rfl (by kernel_rfl) (by kernel_rfl) (by kernel_rfl) rfl rfl rfl rfl (Yl.move rfl) rfl ?_
    refine WD.one 4 (by kernel_rfl) ?_
    refine WO.callC (xs := [.tmp 33, .tmp 5]) (cap := []) rfl (.on rfl rfl) rfl rfl en27 (by repeat (first | exact TakeL.nil | (apply TakeL.cons; · repeat (first | exact Take1.head | apply Take1.tail)))) (fun w hw => same_any bp aoP caP b5 ao2 ca2 P P hp rfl rfl w hw.left.here) rfl (fun _ => ⟨_, (by repeat (first | exact TakeL.nil | (apply TakeL.cons; · repeat (first | exact Take1.head | apply Take1.tail))))⟩) ?_
    rintro ⟨⟩ -
    refine WD.take 5 rfl (by kernel_rfl) (by kernel_rfl) (by kernel_rfl) rfl rfl (Yl.pickT rfl rfl) rfl ?_
    refine WD.take 6 rfl (by kernel_rfl) (by kernel_rfl) (by kernel_rfl) rfl rfl (Yl.move rfl) rfl ?_
    refine WD.know (t := 36) (b' := true) rfl (by first | rfl | (simp; done) | (simp; omega)) ?_
    refine WD.takeOn 7 rfl (by kernel_rfl) (by kernel_rfl) (by kernel_rfl) rfl rfl rfl rfl (Yl.move rfl) rfl ?_
    refine WD.takeOn 10 rfl (by kernel_rfl) (by kernel_rfl) (by kernel_rfl) rfl rfl rfl rfl (Yl.move rfl) rfl ?_
    refine WD.takeOn 11 rfl (by kernel_rfl) (by kernel_rfl) (by kernel_rfl) rfl rfl rfl rfl (Yl.toStr un55 un5 un9 rfl (Reads.of (r := rdR (.slice al bs.length cl) 1 bs.length (ints .u8 bs)) RdOf.rd' (by repeat (first | exact Take1.head | apply Take1.tail)))) rfl ?_
    refine WD.one 8 (by kernel_rfl) ?_
    refine WO.callC (xs := [.tmp 37]) (cap := []) rfl (.on rfl rfl) rfl rfl en24 (by repeat (first | exact TakeL.nil | (apply TakeL.cons; · repeat (first | exact Take1.head | apply Take1.tail)))) (fun w hw => bytesP_any bp aoP caP P hp w hw.left.here) rfl (fun _ => ⟨_, (by repeat (first | exact TakeL.nil | (apply TakeL.cons; · repeat (first | exact Take1.head | apply Take1.tail))))⟩) ?_
    rintro ⟨a38, c38⟩ -
    rw [hpb]
    dsimp only
    refine WD.one 9 (by kernel_rfl) ?_
    refine WO.y rfl rfl (.on rfl rfl) (Yl.toStr un55 un5 un9 rfl (Reads.of (RdOf.own (v := .slice a38 bs.length c38) (e := 5) (cs := ints .u8 bs)) (by repeat (first | exact Take1.head | apply Take1.tail)))) rfl ?_
    refine WD.takeOn 12 rfl (by kernel_rfl) (by kernel_rfl) (by kernel_rfl) rfl rfl rfl rfl (Yl.sEq rfl rfl) rfl ?_
    refine WD.know (t := 42) (b' := true) rfl (by first | rfl | (simp; done) | (simp; omega)) ?_
    refine WD.take 13 rfl (by kernel_rfl) (by kernel_rfl) (by kernel_rfl) rfl rfl (Yl.pickT rfl rfl) rfl ?_
    refine WD.take 14 rfl (by kernel_rfl) (by kernel_rfl) (by kernel_rfl) rfl rfl (Yl.assign rfl) rfl ?_
    refine WD.done (by kernel_rfl) ?_
    refine WC.ret ?_
    repeat (first | (with_reducible refine peelT ?_) | (with_reducible refine peelB ?_) | (with_reducible refine peelTX ?_) | (with_reducible refine peelBX ?_) | (with_reducible refine peelBN ?_) | (with_reducible refine peelBO rfl ?_))
    exact ret1 (.inr rfl) Try.results5 rfl fun w' h => ⟨(), trivial, rfl, h.sub (by repeat (first | exact TakeL.nil | (apply TakeL.cons; · repeat (first | exact Take1.head | apply Take1.tail))))⟩
theorem loads_any (al : Option Addr) (cl : Nat) (bs : List Int) (hB : Bytes bs) (w : World) (hw : OK w (fpL [rdR (.slice al bs.length cl) 1 bs.length (ints .u8 bs)]) [rdR (.slice al bs.length cl) 1 bs.length (ints .u8 bs)] w) :
    Fn Try.prog 5 [.slice al bs.length cl] [rdR (.slice al bs.length cl) 1 bs.length (ints .u8 bs)] w (fun _ : Unit => True) (fun _ => .bool true) (fun _ => []) := by
  cases h : rOk bs with
  | false => exact loadsNo_any al cl bs hB h w hw
  | true => exact loadsYes_any al cl bs hB h w hw
end Go.Proofs.Ytnlibngncicobaa
