/- PolicyTidies: the law. -/
import Derived.Test.YtnlibngncicobaaPolR
namespace Go.Proofs.Ytnlibngncicobaa
open Go Go.RowKit
set_option maxRecDepth 100000 in
set_option maxHeartbeats 1000000 in
theorem tidiesBad_any (d : Int) (v v2 : Value) (l : List Ru) (a : Int) (ts : List Int) (now : Int) (hd : telU d = false) (w : World) (hw : OK w (fpL [rdR v 5 l.length (vcs ruV l), rdR v2 1 ts.length (ints .u16 ts)]) [rdR v 5 l.length (vcs ruV l), rdR v2 1 ts.length (ints .u16 ts)] w) :
    Fn Try.prog 6 [.int .u8 d, v, .int .u8 a, v2, .int .u64 now] [rdR v 5 l.length (vcs ruV l), rdR v2 1 ts.length (ints .u16 ts)] w (fun _ : Unit => True) (fun _ => .bool true) (fun _ => []) := by
  obtain ⟨al, cl, rfl, hcl, hml⟩ := (hw.get .head : Rd _ _ _ _ _).form
  obtain ⟨tl, dl, rfl, hdl, hml2⟩ := (hw.get (.tail .head) : Rd _ _ _ _ _).form
  refine enterF Try.func6 rfl Try.ntmps6 rfl hw ?_
  refine WC.seq ?_
  refine WC.region ?_
  refine WL.y (Yl.assign rfl) rfl ?_
  refine WL.nil ?_
  refine WC.seq ?_
  refine WC.seq ?_
  refine WC.region ?_
  refine WL.callC (xs := []) (cap := []) rfl rfl en8 (by repeat (first | exact TakeL.nil | (apply TakeL.cons; · repeat (first | exact Take1.head | apply Take1.tail)))) (fun w hw => known_any w hw.left.here) rfl ?_
  rintro ⟨⟩ -
  refine WL.y (Yl.not rfl) rfl ?_
  refine WL.know (t := 25) (b' := false) rfl (by first | rfl | (simp; done) | (simp; omega)) ?_
  refine WL.nil ?_
  refine WC.condF rfl (by first | rfl | (simp; done) | (simp; omega)) ?_
  refine WC.skip ?_
  refine WC.seq ?_
  refine WC.region ?_
  refine WL.y (Yl.move rfl) rfl ?_
  refine WL.y (Yl.move rfl) rfl ?_
  refine WL.callC (xs := [.tmp 26, .tmp 27]) (cap := []) rfl rfl en29 (by repeat (first | exact TakeL.nil | (apply TakeL.cons; · repeat (first | exact Take1.head | apply Take1.tail)))) (fun w hw => laidBad_any d _ hd w hw.left.here) rfl ?_
  rintro ⟨⟩ -
  refine WL.y (Yl.move rfl) rfl ?_
  refine WL.y (Yl.move rfl) rfl ?_
  refine WL.callC (xs := [.tmp 29, .tmp 30]) (cap := []) rfl rfl en29 (by repeat (first | exact TakeL.nil | (apply TakeL.cons; · repeat (first | exact Take1.head | apply Take1.tail)))) (fun w hw => laidBad_any d _ hd w hw.left.here) rfl ?_
  rintro ⟨⟩ -
  refine WL.y (Yl.assign rfl) rfl ?_
  refine WL.y (Yl.assign rfl) rfl ?_
  refine WL.nil ?_
  refine WC.seq ?_
  refine WC.seq ?_
  refine WC.region ?_
  refine WL.y (Yl.move rfl) rfl ?_
  refine WL.y (Yl.len un64 rfl) rfl ?_
  refine WL.y (Yl.gtr rfl rfl) rfl ?_
  refine WL.y (Yl.move rfl) rfl ?_
  refine WL.both (t := 35) rfl (fun g35 => ?_) (fun g35 => ?_)
  · refine WL.off rfl rfl rfl rfl ?_
    refine WL.off rfl rfl rfl rfl ?_
    refine WL.off rfl rfl rfl rfl ?_
    refine WL.y (Yl.pickT rfl rfl) rfl ?_
    refine WL.y (Yl.move rfl) rfl ?_
    refine WL.off rfl rfl rfl rfl ?_
    refine WL.off rfl rfl rfl rfl ?_
    refine WL.y (Yl.pickT rfl rfl) rfl ?_
    refine WL.y (Yl.move rfl) rfl ?_
    refine WL.off rfl rfl rfl rfl ?_
    refine WL.off rfl rfl rfl rfl ?_
    refine WL.y (Yl.pickT rfl rfl) rfl ?_
    refine WL.y (Yl.move rfl) rfl ?_
    refine WL.off rfl rfl rfl rfl ?_
    refine WL.off rfl rfl rfl rfl ?_
    refine WL.y (Yl.pickT rfl rfl) rfl ?_
    refine WL.nil ?_
    refine WC.condT rfl (by first | rfl | (simp; done) | (simp; omega)) ?_
    refine WC.seq ?_
    refine WC.region ?_
    refine WL.y (Yl.assign rfl) rfl ?_
    refine WL.nil ?_
    refine WC.ret ?_
    repeat (first | (with_reducible refine peelT ?_) | (with_reducible refine peelB ?_) | (with_reducible refine peelTX ?_) | (with_reducible refine peelBX ?_) | (with_reducible refine peelBN ?_) | (with_reducible refine peelBO rfl ?_))
    exact ret1 (.inr rfl) Try.results6 rfl fun w' h => ⟨(), trivial, rfl, h.sub (by repeat (first | exact TakeL.nil | (apply TakeL.cons; · repeat (first | exact Take1.head | apply Take1.tail))))⟩
  · refine WL.on rfl rfl ?_
    refine WL.y (Yl.move rfl) rfl ?_
    refine WL.on rfl rfl ?_
    refine WL.y (Yl.len un65 rfl) rfl ?_
    refine WL.on rfl rfl ?_
    refine WL.y (Yl.gtr rfl rfl) rfl ?_
    refine WL.y (Yl.pickF rfl rfl) rfl ?_
    refine WL.y (Yl.move rfl) rfl ?_
    refine WL.both (t := 40) rfl (fun g40 => ?_) (fun g40 => ?_)
    · refine WL.off rfl rfl rfl rfl ?_
      refine WL.off rfl rfl rfl rfl ?_
      refine WL.y (Yl.pickT rfl rfl) rfl ?_
      refine WL.y (Yl.move rfl) rfl ?_
      refine WL.off rfl rfl rfl rfl ?_
      refine WL.off rfl rfl rfl rfl ?_
      refine WL.y (Yl.pickT rfl rfl) rfl ?_
      refine WL.y (Yl.move rfl) rfl ?_
      refine WL.off rfl rfl rfl rfl ?_
      refine WL.off rfl rfl rfl rfl ?_
      refine WL.y (Yl.pickT rfl rfl) rfl ?_
      refine WL.nil ?_
      refine WC.condT rfl (by first | rfl | (simp; done) | (simp; omega)) ?_
      refine WC.seq ?_
      refine WC.region ?_
      refine WL.y (Yl.assign rfl) rfl ?_
      refine WL.nil ?_
      refine WC.ret ?_
      repeat (first | (with_reducible refine peelT ?_) | (with_reducible refine peelB ?_) | (with_reducible refine peelTX ?_) | (with_reducible refine peelBX ?_) | (with_reducible refine peelBN ?_) | (with_reducible refine peelBO rfl ?_))
      exact ret1 (.inr rfl) Try.results6 rfl fun w' h => ⟨(), trivial, rfl, h.sub (by repeat (first | exact TakeL.nil | (apply TakeL.cons; · repeat (first | exact Take1.head | apply Take1.tail))))⟩
    · refine WL.on rfl rfl ?_
      refine WL.y (Yl.move rfl) rfl ?_
      refine WL.on rfl rfl ?_
      refine WL.y (Yl.nilEq un33 rfl rfl) rfl ?_
      refine WL.know (t := 42) (b' := true) rfl (by first | rfl | (simp; done) | (simp; omega)) ?_
      refine WL.y (Yl.pickF rfl rfl) rfl ?_
      refine WL.y (Yl.move rfl) rfl ?_
      refine WL.off rfl rfl rfl rfl ?_
      refine WL.off rfl rfl rfl rfl ?_
      refine WL.y (Yl.pickT rfl rfl) rfl ?_
      refine WL.y (Yl.move rfl) rfl ?_
      refine WL.off rfl rfl rfl rfl ?_
      refine WL.off rfl rfl rfl rfl ?_
      refine WL.y (Yl.pickT rfl rfl) rfl ?_
      refine WL.nil ?_
      refine WC.condT rfl (by first | rfl | (simp; done) | (simp; omega)) ?_
      refine WC.seq ?_
      refine WC.region ?_
      refine WL.y (Yl.assign rfl) rfl ?_
      refine WL.nil ?_
      refine WC.ret ?_
      repeat (first | (with_reducible refine peelT ?_) | (with_reducible refine peelB ?_) | (with_reducible refine peelTX ?_) | (with_reducible refine peelBX ?_) | (with_reducible refine peelBN ?_) | (with_reducible refine peelBO rfl ?_))
      exact ret1 (.inr rfl) Try.results6 rfl fun w' h => ⟨(), trivial, rfl, h.sub (by repeat (first | exact TakeL.nil | (apply TakeL.cons; · repeat (first | exact Take1.head | apply Take1.tail))))⟩
set_option maxRecDepth 100000 in
set_option maxHeartbeats 1000000 in
theorem tidiesGood_any (d : Int) (v v2 : Value) (l : List Ru) (a : Int) (ts : List Int) (now : Int) (hd : telU d = true) (hl : UOk l) (hln : l.length ≤ 17592186044416) (ha : 0 ≤ a) (hts : ∀ t ∈ ts, 0 ≤ t ∧ t < 65536) (hn : 0 ≤ now ∧ now < 18446744073709551616) (w : World) (hw : OK w (fpL [rdR v 5 l.length (vcs ruV l), rdR v2 1 ts.length (ints .u16 ts)]) [rdR v 5 l.length (vcs ruV l), rdR v2 1 ts.length (ints .u16 ts)] w) :
    Fn Try.prog 6 [.int .u8 d, v, .int .u8 a, v2, .int .u64 now] [rdR v 5 l.length (vcs ruV l), rdR v2 1 ts.length (ints .u16 ts)] w (fun _ : Unit => True) (fun _ => .bool true) (fun _ => []) := by
  obtain ⟨al, cl, rfl, hcl, hml⟩ := (hw.get .head : Rd _ _ _ _ _).form
  obtain ⟨tl, dl, rfl, hdl, hml2⟩ := (hw.get (.tail .head) : Rd _ _ _ _ _).form
  obtain ⟨L, hL⟩ : ∃ P, laidP d l = P := ⟨_, rfl⟩
  have hLo : L.ok := by rw [← hL]; exact laid_ok hd hl
  obtain ⟨m, hm⟩ : ∃ m, now % 1440 = m := ⟨_, rfl⟩
  have hm0 : 0 ≤ m ∧ m < 18446744073709551616 := by omega
  obtain ⟨P, hP⟩ : ∃ P, noteU L a m = P := ⟨_, rfl⟩
  have hPo : P.ok := by rw [← hP]; exact hLo.note hm0
  obtain ⟨T, hT⟩ : ∃ P', tidyU P = P' := ⟨_, rfl⟩
  have hTo : T.ok := by rw [← hT]; exact hPo.tidy
  have hTi : (idleU T.rl).length = 0 := by rw [← hT]; exact congrArg List.length (kept_idle P.rl)
  have hTr : T.rl = keptU P.rl := by rw [← hT]; rfl
  refine enterF Try.func6 rfl Try.ntmps6 rfl hw ?_
  refine WC.seq ?_
  refine WC.region ?_
  refine WL.y (Yl.assign rfl) rfl ?_
  refine WL.nil ?_
  refine WC.seq ?_
  refine WC.seq ?_
  refine WC.region ?_
  refine WL.callC (xs := []) (cap := []) rfl rfl en8 (by repeat (first | exact TakeL.nil | (apply TakeL.cons; · repeat (first | exact Take1.head | apply Take1.tail)))) (fun w hw => known_any w hw.left.here) rfl ?_
  rintro ⟨⟩ -
  refine WL.y (Yl.not rfl) rfl ?_
  refine WL.know (t := 25) (b' := false) rfl (by first | rfl | (simp; done) | (simp; omega)) ?_
  refine WL.nil ?_
  refine WC.condF rfl (by first | rfl | (simp; done) | (simp; omega)) ?_
  refine WC.skip ?_
  refine WC.seq ?_
  refine WC.region ?_
  refine WL.y (Yl.move rfl) rfl ?_
  refine WL.y (Yl.move rfl) rfl ?_
  refine WL.callC (xs := [.tmp 26, .tmp 27]) (cap := []) rfl rfl en29 (by repeat (first | exact TakeL.nil | (apply TakeL.cons; · repeat (first | exact Take1.head | apply Take1.tail)))) (fun w hw => laid_any d (.slice al l.length cl) l hd hl (by omega) w (hw.src (A := []) (r := rdR (.slice al l.length cl) 5 l.length (vcs ruV l)) RdOf.rd' (by repeat (first | exact Take1.head | apply Take1.tail))) hw.left.here) rfl ?_
  rintro ⟨bp, aoP, caP⟩ -
  rw [hL]
  dsimp only [polR, List.cons_append, List.nil_append]
  refine WL.y (Yl.move rfl) rfl ?_
  refine WL.y (Yl.move rfl) rfl ?_
  refine WL.callC (xs := [.tmp 29, .tmp 30]) (cap := []) rfl rfl en29 (by repeat (first | exact TakeL.nil | (apply TakeL.cons; · repeat (first | exact Take1.head | apply Take1.tail)))) (fun w hw => laid_any d (.slice al l.length cl) l hd hl (by omega) w (hw.src (A := []) (r := rdR (.slice al l.length cl) 5 l.length (vcs ruV l)) RdOf.rd' (by repeat (first | exact Take1.head | apply Take1.tail))) hw.left.here) rfl ?_
  rintro ⟨bq, aoQ, caQ⟩ -
  rw [hL]
  dsimp only [polR, List.cons_append, List.nil_append]
  refine WL.y (Yl.assign rfl) rfl ?_
  refine WL.y (Yl.assign rfl) rfl ?_
  refine WL.nil ?_
  refine WC.seq ?_
  refine WC.seq ?_
  refine WC.region ?_
  refine WL.y (Yl.move rfl) rfl ?_
  refine WL.y (Yl.len un64 rfl) rfl ?_
  refine WL.y (Yl.gtr rfl rfl) rfl ?_
  refine WL.y (Yl.move rfl) rfl ?_
  refine WL.both (t := 35) rfl (fun g35 => ?_) (fun g35 => ?_)
  · refine WL.off rfl rfl rfl rfl ?_
    refine WL.off rfl rfl rfl rfl ?_
    refine WL.off rfl rfl rfl rfl ?_
    refine WL.y (Yl.pickT rfl rfl) rfl ?_
    refine WL.y (Yl.move rfl) rfl ?_
    refine WL.off rfl rfl rfl rfl ?_
    refine WL.off rfl rfl rfl rfl ?_
    refine WL.y (Yl.pickT rfl rfl) rfl ?_
    refine WL.y (Yl.move rfl) rfl ?_
    refine WL.off rfl rfl rfl rfl ?_
    refine WL.off rfl rfl rfl rfl ?_
    refine WL.y (Yl.pickT rfl rfl) rfl ?_
    refine WL.y (Yl.move rfl) rfl ?_
    refine WL.off rfl rfl rfl rfl ?_
    refine WL.off rfl rfl rfl rfl ?_
    refine WL.y (Yl.pickT rfl rfl) rfl ?_
    refine WL.nil ?_
    refine WC.condT rfl (by first | rfl | (simp; done) | (simp; omega)) ?_
    refine WC.seq ?_
    refine WC.region ?_
    refine WL.y (Yl.assign rfl) rfl ?_
    refine WL.nil ?_
    refine WC.ret ?_
    repeat (first | (with_reducible refine peelT ?_) | (with_reducible refine peelB ?_) | (with_reducible refine peelTX ?_) | (with_reducible refine peelBX ?_) | (with_reducible refine peelBN ?_) | (with_reducible refine peelBO rfl ?_))
    exact ret1 (.inr rfl) Try.results6 rfl fun w' h => ⟨(), trivial, rfl, h.sub (by repeat (first | exact TakeL.nil | (apply TakeL.cons; · repeat (first | exact Take1.head | apply Take1.tail))))⟩
  · refine WL.on rfl rfl ?_
    refine WL.y (Yl.move rfl) rfl ?_
    refine WL.on rfl rfl ?_
    refine WL.y (Yl.len un65 rfl) rfl ?_
    refine WL.on rfl rfl ?_
    refine WL.y (Yl.gtr rfl rfl) rfl ?_
    refine WL.y (Yl.pickF rfl rfl) rfl ?_
    refine WL.y (Yl.move rfl) rfl ?_
    refine WL.both (t := 40) rfl (fun g40 => ?_) (fun g40 => ?_)
    · refine WL.off rfl rfl rfl rfl ?_
      refine WL.off rfl rfl rfl rfl ?_
      refine WL.y (Yl.pickT rfl rfl) rfl ?_
      refine WL.y (Yl.move rfl) rfl ?_
      refine WL.off rfl rfl rfl rfl ?_
      refine WL.off rfl rfl rfl rfl ?_
      refine WL.y (Yl.pickT rfl rfl) rfl ?_
      refine WL.y (Yl.move rfl) rfl ?_
      refine WL.off rfl rfl rfl rfl ?_
      refine WL.off rfl rfl rfl rfl ?_
      refine WL.y (Yl.pickT rfl rfl) rfl ?_
      refine WL.nil ?_
      refine WC.condT rfl (by first | rfl | (simp; done) | (simp; omega)) ?_
      refine WC.seq ?_
      refine WC.region ?_
      refine WL.y (Yl.assign rfl) rfl ?_
      refine WL.nil ?_
      refine WC.ret ?_
      repeat (first | (with_reducible refine peelT ?_) | (with_reducible refine peelB ?_) | (with_reducible refine peelTX ?_) | (with_reducible refine peelBX ?_) | (with_reducible refine peelBN ?_) | (with_reducible refine peelBO rfl ?_))
      exact ret1 (.inr rfl) Try.results6 rfl fun w' h => ⟨(), trivial, rfl, h.sub (by repeat (first | exact TakeL.nil | (apply TakeL.cons; · repeat (first | exact Take1.head | apply Take1.tail))))⟩
    · refine WL.on rfl rfl ?_
      refine WL.y (Yl.move rfl) rfl ?_
      refine WL.on rfl rfl ?_
      refine WL.y (Yl.nilEq un33 rfl rfl) rfl ?_
      refine WL.know (t := 42) (b' := false) rfl (by first | rfl | (simp; done) | (simp; omega)) ?_
      refine WL.y (Yl.pickF rfl rfl) rfl ?_
      refine WL.y (Yl.move rfl) rfl ?_
      refine WL.on rfl rfl ?_
      refine WL.y (Yl.move rfl) rfl ?_
      refine WL.on rfl rfl ?_
      refine WL.y (Yl.nilEq un33 rfl rfl) rfl ?_
      refine WL.know (t := 46) (b' := false) rfl (by first | rfl | (simp; done) | (simp; omega)) ?_
      refine WL.y (Yl.pickF rfl rfl) rfl ?_
      refine WL.y (Yl.move rfl) rfl ?_
      refine WL.on rfl rfl ?_
      refine WL.y (Yl.move rfl) rfl ?_
      refine WL.on rfl rfl ?_
      refine WL.y (Yl.geq rfl rfl) rfl ?_
      refine WL.y (Yl.pickF rfl rfl) rfl ?_
      refine WL.nil ?_
      refine WC.cond rfl (fun g51 => ?_) (fun g51 => ?_)
      · refine WC.seq ?_
        refine WC.region ?_
        refine WL.y (Yl.assign rfl) rfl ?_
        refine WL.nil ?_
        refine WC.ret ?_
        repeat (first | (with_reducible refine peelT ?_) | (with_reducible refine peelB ?_) | (with_reducible refine peelTX ?_) | (with_reducible refine peelBX ?_) | (with_reducible refine peelBN ?_) | (with_reducible refine peelBO rfl ?_))
        exact ret1 (.inr rfl) Try.results6 rfl fun w' h => ⟨(), trivial, rfl, h.sub (by repeat (first | exact TakeL.nil | (apply TakeL.cons; · repeat (first | exact Take1.head | apply Take1.tail))))⟩
      · refine WC.skip ?_
        refine WC.seq ?_
        have hts2 : ts.length ≤ 200 := by have := g40; simp at this; omega
        have ha8 : 0 ≤ a ∧ a < 8 := by have := g51; simp at this; omega
        refine WC.region ?_
        refine WL.y (Yl.move rfl) rfl ?_
        refine WL.y (Yl.move rfl) rfl ?_
        refine WL.y (Yl.move rfl) rfl ?_
        refine WL.y (Yl.rem rfl rfl (by omega) rfl) rfl ?_
        refine WL.say (t := 55) (v' := .int .u64 m) rfl (by (rw [← hm]; refine congrArg (Value.int .u64) ?_; exact Int.tmod_eq_emod_of_nonneg hn.1)) ?_
        refine WL.callC (xs := [.tmp 52, .tmp 53, .tmp 55]) (cap := []) rfl rfl en18 (by repeat (first | exact TakeL.nil | (apply TakeL.cons; · repeat (first | exact Take1.head | apply Take1.tail)))) (fun w hw => noteP_any bp aoP caP L a m ha hLo w hw.left.here) rfl ?_
        rintro ⟨⟩ -
        rw [hP]
        dsimp only [polR, List.cons_append, List.nil_append]
        refine WL.nil ?_
        refine WC.seq ?_
        refine WC.region ?_
        refine WL.y (Yl.move rfl) rfl ?_
        refine WL.y (Yl.move rfl) rfl ?_
        refine WL.y (Yl.move rfl) rfl ?_
        refine WL.y (Yl.rem rfl rfl (by omega) rfl) rfl ?_
        refine WL.say (t := 60) (v' := .int .u64 m) rfl (by (rw [← hm]; refine congrArg (Value.int .u64) ?_; exact Int.tmod_eq_emod_of_nonneg hn.1)) ?_
        refine WL.callC (xs := [.tmp 57, .tmp 58, .tmp 60]) (cap := []) rfl rfl en18 (by repeat (first | exact TakeL.nil | (apply TakeL.cons; · repeat (first | exact Take1.head | apply Take1.tail)))) (fun w hw => noteP_any bq aoQ caQ L a m ha hLo w hw.left.here) rfl ?_
        rintro ⟨⟩ -
        rw [hP]
        dsimp only [polR, List.cons_append, List.nil_append]
        refine WL.nil ?_
        refine WC.seq ?_
        refine WC.region ?_
        refine WL.y (Yl.move rfl) rfl ?_
        refine WL.callC (xs := [.tmp 62]) (cap := []) rfl rfl en21 (by repeat (first | exact TakeL.nil | (apply TakeL.cons; · repeat (first | exact Take1.head | apply Take1.tail)))) (fun w hw => lidleK_any bq aoQ caQ P hPo w hw.left.here) rfl ?_
        rintro ⟨a63, c63⟩ -
        dsimp only [polR, List.cons_append, List.nil_append]
        refine WL.y (Yl.len un49 rfl) rfl ?_
        refine WL.y (Yl.assign rfl) rfl ?_
        refine WL.nil ?_
        refine WC.seq ?_
        refine WC.seq ?_
        refine WC.region ?_
        refine WL.y (Yl.move rfl) rfl ?_
        refine WL.callC (xs := [.tmp 65]) (cap := []) rfl rfl en22 (by repeat (first | exact TakeL.nil | (apply TakeL.cons; · repeat (first | exact Take1.head | apply Take1.tail)))) (fun w hw => tidyP_any bq aoQ caQ P hPo w hw.left.here) rfl ?_
        rintro ⟨aoT, caT⟩ -
        rw [hT]
        dsimp only [polR, List.cons_append, List.nil_append]
        refine WL.y (Yl.move rfl) rfl ?_
        refine WL.y (Yl.neq rfl rfl) rfl ?_
        refine WL.know (t := 68) (b' := false) rfl (by simp) ?_
        refine WL.y (Yl.move rfl) rfl ?_
        refine WL.on rfl rfl ?_
        refine WL.y (Yl.move rfl) rfl ?_
        refine WL.on rfl rfl ?_
        refine WL.callC (xs := [.tmp 70]) (cap := []) rfl rfl en21 (by repeat (first | exact TakeL.nil | (apply TakeL.cons; · repeat (first | exact Take1.head | apply Take1.tail)))) (fun w hw => lidleK_any bq aoT caT T hTo w hw.left.here) rfl ?_
        rintro ⟨a71, c71⟩ -
        rw [hTi]
        dsimp only [polR, List.cons_append, List.nil_append]
        refine WL.on rfl rfl ?_
        refine WL.y (Yl.len un49 rfl) rfl ?_
        refine WL.on rfl rfl ?_
        refine WL.y (Yl.neq rfl rfl) rfl ?_
        refine WL.know (t := 73) (b' := false) rfl (by first | rfl | (simp; done) | (simp; omega)) ?_
        refine WL.y (Yl.pickF rfl rfl) rfl ?_
        refine WL.nil ?_
        refine WC.condF rfl (by first | rfl | (simp; done) | (simp; omega)) ?_
        refine WC.skip ?_
        refine WC.seq ?_
        refine WC.seq ?_
        refine WC.region ?_
        refine WL.y (Yl.move rfl) rfl ?_
        refine WL.y (Yl.len un65 rfl) rfl ?_
        refine WL.y (Yl.move rfl) rfl ?_
        refine WL.nil ?_
        refine WC.block ?_
        refine WC.loop (α := Nat) (fun k => [(2, .int .u8 a), (11, .pointer (some ⟨bp, 0, none⟩)), (12, .pointer (some ⟨bq, 0, none⟩)), (75, .slice tl ts.length dl), (76, .int .i64 (ts.length : Int)), (77, .int .i64 (k : Int))]) (fun k => [rdR (.slice tl ts.length dl) 1 ts.length (ints .u16 ts), blkR bp 80 (P.cells (.slice aoP P.rl.length caP)), rdR (.slice aoP P.rl.length caP) 5 P.rl.length (vcs ruV P.rl), blkR bq 80 (T.cells (.slice aoT T.rl.length caT)), rdR (.slice aoT T.rl.length caT) 5 T.rl.length (vcs ruV T.rl)]) (fun k => k ≤ ts.length) (fun k => ts.length - k) 0 (Nat.zero_le _) ⟨(by repeat (first | exact Sub.nil | refine Sub.cons rfl ?_)), _, (by repeat (first | exact TakeL.nil | (apply TakeL.cons; · repeat (first | exact Take1.head | apply Take1.tail))))⟩ ?_
        intro k hk
        refine WC.seq ?_
        refine WC.region ?_
        refine WL.y (Yl.lss rfl rfl) rfl ?_
        refine WL.nil ?_
        refine WC.seq ?_
        refine WC.condD rfl (fun g78 => ?_) (fun g78 => ?_)
        · refine WC.skip ?_
          refine WC.seq ?_
          refine WC.block ?_
          refine WC.seq ?_
          refine WC.region ?_
          have hkl : k < ts.length := by omega
          obtain ⟨t, ht0⟩ : ∃ x, ts[k]? = some x := ⟨_, List.getElem?_eq_getElem hkl⟩
          have htr := hts t (List.mem_of_getElem? ht0)
          obtain ⟨X, hX⟩ : ∃ X, (P.rl.find? fun r => fitU r a t) = X := ⟨_, rfl⟩
          have hXo : (X.getD Ru.zero).ok := by rw [← hX]; exact find_ok (UOk.of hPo)
          have hX2 : (T.rl.find? fun r => fitU r a t) = X := by rw [← hX, hTr]; exact kept_find ha8
          obtain ⟨t1, u1⟩ := ask_find P a t
          obtain ⟨t2, u2⟩ := ask_find T a t
          rw [hX] at t1 u1
          rw [hX2] at t2 u2
          have htt : (askU P a t).1 = (askU T a t).1 := by
            rw [t1, t2, ← hT]
            cases X <;> rfl
          obtain ⟨R1, hR1⟩ : ∃ R, askU P a t = R := ⟨_, rfl⟩
          obtain ⟨R2, hR2⟩ : ∃ R, askU T a t = R := ⟨_, rfl⟩
          rw [hR1] at htt t1 u1
          rw [hR2] at htt t2 u2
          refine WL.y (Yl.index un65 sz22 rfl rfl (Reads.of (r := rdR (.slice tl ts.length dl) 1 ts.length (ints .u16 ts)) RdOf.rd' (by repeat (first | exact Take1.head | apply Take1.tail))) rfl (by omega)) rfl ?_
          refine WL.y (Yl.loadE (j := k) on22 rfl (Reads.of (r := rdR (.slice tl ts.length dl) 1 ts.length (ints .u16 ts)) RdOf.rd' (by repeat (first | exact Take1.head | apply Take1.tail))) (u := .int .u16 t) (by simp [ints, ht0])) rfl ?_
          refine WL.y (Yl.assign rfl) rfl ?_
          refine WL.nil ?_
          refine WC.seq ?_
          refine WC.region ?_
          refine WL.y (Yl.move rfl) rfl ?_
          refine WL.y (Yl.move rfl) rfl ?_
          refine WL.y (Yl.move rfl) rfl ?_
          refine WL.y (Yl.conv un22 un25 rfl (u64_in _ (by omega))) rfl ?_
          refine WL.callC (xs := [.tmp 82, .tmp 83, .tmp 85]) (cap := []) rfl rfl en25 (by repeat (first | exact TakeL.nil | (apply TakeL.cons; · repeat (first | exact Take1.head | apply Take1.tail)))) (fun w hw => askK_any bp aoP caP P a t ha (by omega) hPo w hw.left.here) rfl ?_
          rintro ⟨⟩ -
          rw [hR1]
          dsimp only [polR, List.cons_append, List.nil_append]
          refine WL.y (Yl.move rfl) rfl ?_
          refine WL.y (Yl.extract rfl rfl) rfl ?_
          refine WL.y (Yl.extract rfl rfl) rfl ?_
          refine WL.y (Yl.assign rfl) rfl ?_
          refine WL.y (Yl.assign rfl) rfl ?_
          refine WL.nil ?_
          refine WC.seq ?_
          refine WC.region ?_
          refine WL.y (Yl.move rfl) rfl ?_
          refine WL.y (Yl.move rfl) rfl ?_
          refine WL.y (Yl.move rfl) rfl ?_
          refine WL.y (Yl.conv un22 un25 rfl (u64_in _ (by omega))) rfl ?_
          refine WL.callC (xs := [.tmp 90, .tmp 91, .tmp 93]) (cap := []) rfl rfl en25 (by repeat (first | exact TakeL.nil | (apply TakeL.cons; · repeat (first | exact Take1.head | apply Take1.tail)))) (fun w hw => askK_any bq aoT caT T a t ha (by omega) hTo w hw.left.here) rfl ?_
          rintro ⟨⟩ -
          rw [hR2]
          dsimp only [polR, List.cons_append, List.nil_append]
          refine WL.y (Yl.move rfl) rfl ?_
          refine WL.y (Yl.extract rfl rfl) rfl ?_
          refine WL.y (Yl.extract rfl rfl) rfl ?_
          refine WL.y (Yl.assign rfl) rfl ?_
          refine WL.y (Yl.assign rfl) rfl ?_
          refine WL.nil ?_
          refine WC.seq ?_
          refine WC.region ?_
          refine WL.y (Yl.move rfl) rfl ?_
          refine WL.y (Yl.move rfl) rfl ?_
          refine WL.callC (xs := [.tmp 98, .tmp 99]) (cap := []) rfl rfl en30 (by repeat (first | exact TakeL.nil | (apply TakeL.cons; · repeat (first | exact Take1.head | apply Take1.tail)))) (fun w hw => ruleK_any bp aoP caP P R1.2 hPo w hw.left.here) rfl ?_
          rintro ⟨⟩ -
          rw [u1]
          dsimp only [polR, ruV, List.cons_append, List.nil_append]
          refine WL.y (Yl.move rfl) rfl ?_
          refine WL.y (Yl.extract rfl rfl) rfl ?_
          refine WL.y (Yl.extract rfl rfl) rfl ?_
          refine WL.to (To.alloc (cs := Ru.zero.cells) zr24 rfl) rfl ?_
          intro b20
          refine WL.sto (Sto.agg sz24 rfl rfl (by repeat (first | exact Take1.head | apply Take1.tail)) (Ru.ones _) (Ru.len (X.getD Ru.zero)) (by rfl) (Ru.all Ru.zero (X.getD Ru.zero).cells (Ru.len _))) (fun _ h => nomatch h) ?_
          refine WL.y (Yl.assign rfl) rfl ?_
          refine WL.nil ?_
          refine WC.seq ?_
          refine WC.region ?_
          refine WL.y (Yl.move rfl) rfl ?_
          refine WL.y (Yl.move rfl) rfl ?_
          refine WL.callC (xs := [.tmp 104, .tmp 105]) (cap := []) rfl rfl en30 (by repeat (first | exact TakeL.nil | (apply TakeL.cons; · repeat (first | exact Take1.head | apply Take1.tail)))) (fun w hw => ruleK_any bq aoT caT T R2.2 hTo w hw.left.here) rfl ?_
          rintro ⟨⟩ -
          rw [u2]
          dsimp only [polR, ruV, List.cons_append, List.nil_append]
          refine WL.y (Yl.move rfl) rfl ?_
          refine WL.y (Yl.extract rfl rfl) rfl ?_
          refine WL.y (Yl.extract rfl rfl) rfl ?_
          refine WL.to (To.alloc (cs := Ru.zero.cells) zr24 rfl) rfl ?_
          intro b22
          refine WL.sto (Sto.agg sz24 rfl rfl (by repeat (first | exact Take1.head | apply Take1.tail)) (Ru.ones _) (Ru.len (X.getD Ru.zero)) (by rfl) (Ru.all Ru.zero (X.getD Ru.zero).cells (Ru.len _))) (fun _ h => nomatch h) ?_
          refine WL.y (Yl.assign rfl) rfl ?_
          refine WL.nil ?_
          refine WC.seq ?_
          refine WC.region ?_
          refine WL.y (Yl.move rfl) rfl ?_
          refine WL.y (Yl.move rfl) rfl ?_
          refine WL.y (Yl.neq rfl rfl) rfl ?_
          refine WL.know (t := 111) (b' := false) rfl (by simp [htt]) ?_
          refine WL.y (Yl.move rfl) rfl ?_
          refine WL.on rfl rfl ?_
          refine WL.y (Yl.move rfl) rfl ?_
          refine WL.on rfl rfl ?_
          refine WL.y (Yl.move rfl) rfl ?_
          refine WL.on rfl rfl ?_
          refine WL.y (Yl.bNe un4 rfl rfl) rfl ?_
          refine WL.know (t := 115) (b' := false) rfl (by simp) ?_
          refine WL.y (Yl.pickF rfl rfl) rfl ?_
          refine WL.y (Yl.move rfl) rfl ?_
          refine WL.on rfl rfl ?_
          refine WL.y (Yl.loadN ag24 rfl (by repeat (first | exact Take1.head | apply Take1.tail)) (by rfl) (Ru.call (X.getD Ru.zero))) rfl ?_
          refine WL.on rfl rfl ?_
          refine WL.y (Yl.loadN ag24 rfl (by repeat (first | exact Take1.head | apply Take1.tail)) (by rfl) (Ru.call (X.getD Ru.zero))) rfl ?_
          refine WL.on rfl rfl ?_
          refine WL.y (Yl.neA flRu rfl rfl hXo.fits hXo.fits) rfl ?_
          refine WL.know (t := 120) (b' := false) rfl (by rw [eqV_self]; rfl) ?_
          refine WL.y (Yl.pickF rfl rfl) rfl ?_
          refine WL.nil ?_
          refine WC.condF rfl (by first | rfl | (simp; done) | (simp; omega)) ?_
          refine WC.skip ?_
          refine WC.region ?_
          refine WL.y (Yl.add rfl rfl (IntWalk.i64_in _ (by omega))) rfl ?_
          refine WL.y (Yl.move rfl) rfl ?_
          refine WL.nil ?_
          exact ⟨rfl, k + 1, by omega, by omega, (by repeat (first | exact Sub.nil | refine Sub.cons rfl ?_)), _, (by repeat (first | exact TakeL.nil | (apply TakeL.cons; · repeat (first | exact Take1.head | apply Take1.tail))))⟩
        · refine WC.exit ?_
          refine WC.seq ?_
          refine WC.region ?_
          refine WL.y (Yl.assign rfl) rfl ?_
          refine WL.nil ?_
          refine WC.ret ?_
          repeat (first | (with_reducible refine peelT ?_) | (with_reducible refine peelB ?_) | (with_reducible refine peelTX ?_) | (with_reducible refine peelBX ?_) | (with_reducible refine peelBN ?_) | (with_reducible refine peelBO rfl ?_))
          exact ret1 (.inr rfl) Try.results6 rfl fun w' h => ⟨(), trivial, rfl, h.sub (by repeat (first | exact TakeL.nil | (apply TakeL.cons; · repeat (first | exact Take1.head | apply Take1.tail))))⟩
theorem tidies_any (d : Int) (v v2 : Value) (l : List Ru) (a : Int) (ts : List Int) (now : Int) (hl : UOk l) (hln : l.length ≤ 17592186044416) (ha : 0 ≤ a) (hts : ∀ t ∈ ts, 0 ≤ t ∧ t < 65536) (hn : 0 ≤ now ∧ now < 18446744073709551616) (w : World) (hw : OK w (fpL [rdR v 5 l.length (vcs ruV l), rdR v2 1 ts.length (ints .u16 ts)]) [rdR v 5 l.length (vcs ruV l), rdR v2 1 ts.length (ints .u16 ts)] w) :
    Fn Try.prog 6 [.int .u8 d, v, .int .u8 a, v2, .int .u64 now] [rdR v 5 l.length (vcs ruV l), rdR v2 1 ts.length (ints .u16 ts)] w (fun _ : Unit => True) (fun _ => .bool true) (fun _ => []) := by
  cases hd : telU d
  · exact tidiesBad_any d v v2 l a ts now hd w hw
  · exact tidiesGood_any d v v2 l a ts now hd hl hln ha hts hn w hw
theorem apart_any (d : Int) (v : Value) (l : List Ru) (a now : Int) (hl : UOk l) (hln : l.length ≤ 17592186044416) (ha : 0 ≤ a) (hn : 0 ≤ now ∧ now < 18446744073709551616) (w : World) (hw : OK w (fpL [rdR v 5 l.length (vcs ruV l)]) [rdR v 5 l.length (vcs ruV l)] w) :
    Fn Try.prog 7 [.int .u8 d, v, .int .u8 a, .int .u64 now] [rdR v 5 l.length (vcs ruV l)] w (fun _ : Unit => True) (fun _ => .bool true) (fun _ => []) := by
  cases hd : telU d
  · exact apartBad_any d v l a now hd hl hln hn w hw
  · exact apartGood_any d v l a now hd hl hln ha hn w hw
end Go.Proofs.Ytnlibngncicobaa
