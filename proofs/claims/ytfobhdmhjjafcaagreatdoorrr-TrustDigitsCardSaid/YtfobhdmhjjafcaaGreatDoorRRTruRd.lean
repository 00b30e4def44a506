/- The chapter's rows; no book: the walk. -/
import Derived.Test.YtfobhdmhjjafcaaGreatDoorRRTruQ
import Derived.Test.YtfobhdmhjjafcaaGreatDoorRRTruRb
import Derived.Test.YtfobhdmhjjafcaaGreatDoorRRRows
import Derived.Test.YtfobhdmhjjafcaaGreatDoorRRTruB
import Derived.Test.YtfobhdmhjjafcaaGreatDoorRRTruL
import Derived.Test.YtfobhdmhjjafcaaGreatDoorRRLibUp
import Derived.Test.YtfobhdmhjjafcaaGreatDoorRRLibM
import Derived.Shelf.Vars
namespace Go.Proofs.YtfobhdmhjjafcaaGreatDoorRR
open Go Go.RowKit
def k1 : Ky := kyOf 1 (by decide)
def k2 : Ky := kyOf 2 (by decide)
def k3 : Ky := kyOf 3 (by decide)
def ctK (k : Ky) (s : Int) : Ct := ⟨[k, Ky.zero, Ky.zero, Ky.zero], [true, false, false, false], s⟩
theorem kn1 (k : Ky) : learnC [] 1 0 k = [(1, ctK k 1)] := by
  unfold learnC learnT
  have h : (newCt.has.getD 0 false && decide (newCt.ks.getD 0 Ky.zero = k)) = false := rfl
  show [((1 : Int), _)] = _
  rfl
theorem kn_same : learnC [((1 : Int), ctK k2 2)] 1 0 k2 = [(1, ctK k2 2)] := by
  unfold learnC learnT
  have h : ctOf [((1 : Int), ctK k2 2)] 1 = ctK k2 2 := rfl
  rw [h]
  have e : ((ctK k2 2).has.getD 0 false && decide ((ctK k2 2).ks.getD 0 Ky.zero = k2)) = true := by decide
  simp only [e]
  rfl
theorem kn_other : learnC [((1 : Int), ctK k2 2)] 1 0 k3 = [(1, ctK k3 3)] := by
  unfold learnC learnT
  have h : ctOf [((1 : Int), ctK k2 2)] 1 = ctK k2 2 := rfl
  rw [h]
  have e : ((ctK k2 2).has.getD 0 false && decide ((ctK k2 2).ks.getD 0 Ky.zero = k3)) = false := by decide
  simp only [e]
  rfl
theorem kn_kys (k : Ky) (s : Int) : kysAt [((1 : Int), ctK k s)] 1 = [k] := rfl
theorem kn_st (k : Ky) (s : Int) : stOf [((1 : Int), ctK k s)] 1 = s := rfl
theorem kn_c1 (k : Ky) : chgT (ctOf [] 1) 0 k = false := rfl
theorem kn_c2 : chgT (ctOf [((1 : Int), ctK k2 2)] 1) 0 k2 = false := by decide
theorem kn_c3 : chgT (ctOf [((1 : Int), ctK k2 2)] 1) 0 k3 = true := by decide
theorem EG.nil : EG [] := ⟨fun _ h => (nomatch h), fun _ h => (nomatch h), List.Pairwise.nil⟩
theorem key_1 (w : World) (hw : OK w (fpL []) [] w) : Fn Tryz.prog 19 [.int .u8 1] [] w (fun _ : Unit => True) (fun _ => kyV k1) (fun _ => []) := key_any 1 (by decide) w hw
theorem key_2 (w : World) (hw : OK w (fpL []) [] w) : Fn Tryz.prog 19 [.int .u8 2] [] w (fun _ : Unit => True) (fun _ => kyV k2) (fun _ => []) := key_any 2 (by decide) w hw
theorem key_3 (w : World) (hw : OK w (fpL []) [] w) : Fn Tryz.prog 19 [.int .u8 3] [] w (fun _ : Unit => True) (fun _ => kyV k3) (fun _ => []) := key_any 3 (by decide) w hw
theorem learn_at (b : Nat) (ao : Option Addr) (cp mb : Nat) (acc : Int) (own : List Ky) (es : Es) (hE : EG es) (a : Int) (ha : 0 ≤ a ∧ a < 256) (i : Nat) (hi : i < 4) (k : Ky) (d : Int) (hd : d = (i : Int)) (hm : mayF acc a d = 0) (w : World) (hw : OK w (fpL (bkL b ao cp mb acc own es)) (bkL b ao cp mb acc own es) w) :
    Fn Tryz.prog 14 [.pointer (some ⟨b, 0, none⟩), .agg #[.int .u8 a, .int .u8 d], kyV k] (bkL b ao cp mb acc own es) w (fun es' : Es => pj es' = learnC (pj es) a i k ∧ EG es') (fun _ => .tuple #[.bool (chgT (ctOf (pj es) a) i k), .int .i64 0]) (fun es' => bkL b ao cp mb acc own es') := by
  subst hd
  exact learn_any b ao cp mb acc own es hE a ha i hi k hm w hw
set_option maxHeartbeats 3200000 in
set_option maxRecDepth 100000 in
theorem known_any (m : Int) (w : World) (hm : RdS w (fpL []) mxV 1 1 [.int .i64 m]) (hw : OK w (fpL []) [] w) : Fn Tryz.prog 6 [] [] w (fun _ : Unit => True) (fun _ => .bool true) (fun _ => []) := by
  have hown : (setK [k1]).length ≤ 12 := by have := setK_len [k1]; simp at this; omega
  obtain ⟨own, hown0⟩ : ∃ own, setK [k1] = own := ⟨_, rfl⟩
  rw [hown0] at hown
  obtain ⟨n, hn⟩ : ∃ n, numT 0 own 1 [k2] = n := ⟨_, rfl⟩
  have hnd : Dig n := by rw [← hn]; unfold numT; rw [if_neg (by decide)]; exact numF_dig (digF_dig _ _) (digF_dig _ _)
  have hnl : n.length = 60 := by rw [← hn]; unfold numT; rw [if_neg (by decide), numF_len, digF_len, digF_len]
  have hsb := spaced_bare hnd.noB
  have hsl := spacedF_len n
  obtain ⟨n3, hn3⟩ : ∃ n3, numT 0 own 1 [k3] = n3 := ⟨_, rfl⟩
  have hn3l : n3.length = 60 := by rw [← hn3]; unfold numT; rw [if_neg (by decide), numF_len, digF_len, digF_len]
  refine enterM Tryz.func6 rfl Tryz.ntmps6 rfl hw ?_
  refine WC.seq ?_
  refine WC.region ?_
  refine WL.to (To.alloc (cs := [.bool false]) zr4 rfl) rfl ?_
  intro b0
  refine WL.nil ?_
  refine WC.seq ?_
  refine WC.region ?_
  refine WL.callC (xs := [_]) (cap := []) rfl rfl en19 (by repeat' constructor) (fun w hw => key_1 w hw.left.here) rfl ?_
  rintro ⟨⟩ -
  refine WL.to (To.buildSlice (vs := [kyV k1]) un22 zs30 rfl rfl (fun v hv => by rw [List.mem_singleton] at hv; subst hv; unfold kyV; simp [Value.cells, Ky.clen]) (by decide) (by decide)) rfl ?_
  intro b24
  refine WL.callC (xs := [_, .tmp 24]) (cap := []) rfl rfl en13 (by repeat' constructor) (fun w hw => new_any 0 (.slice (some ⟨b24, 0, none⟩) 1 1) [k1] (by decide) (by decide) w (hw.src (A := []) (RdOf.blk (b := b24) (T := 30) (size := 32) (n := 1) (cs := flat [kyV k1]) (cs' := vcs kyV [k1]) (Nat.le_refl _) (by unfold maxLen; omega) (by simp [flat, kyV, Value.cells, Ky.clen]) (by rw [List.drop_zero, List.take_of_length_le (by simp [flat, kyV, Value.cells, Ky.clen])]; rfl)) (by repeat constructor)) hw.left.here) rfl ?_
  rintro ⟨b, ⟨ao, cp⟩, mb⟩ -
  rw [hown0]
  dsimp only [List.cons_append, List.nil_append]
  refine WL.y (Yl.move rfl) rfl ?_
  refine WL.y (Yl.extract rfl rfl) rfl ?_
  refine WL.y (Yl.extract rfl rfl) rfl ?_
  refine WL.y (Yl.assign rfl) rfl ?_
  refine WL.y (Yl.assign rfl) rfl ?_
  refine WL.nil ?_
  refine WC.seq ?_
  refine WC.seq ?_
  refine WC.region ?_
  refine WL.y (Yl.move rfl) rfl ?_
  refine WL.y (Yl.neq rfl rfl) rfl ?_
  refine WL.know (t := 29) (b' := false) rfl (by first | rfl | (simp; done) | (simp; omega)) ?_
  refine WL.y (Yl.move rfl) rfl ?_
  refine WL.on rfl rfl ?_
  refine WL.y (Yl.move rfl) rfl ?_
  refine WL.on rfl rfl ?_
  refine WL.y (Yl.nilEq un33 rfl rfl) rfl ?_
  refine WL.y (Yl.pickF rfl rfl) rfl ?_
  refine WL.know (t := 33) (b' := false) rfl (by first | rfl | (simp; done) | (simp; omega)) ?_
  refine WL.nil ?_
  refine WC.condF rfl (by first | rfl | (simp; done) | (simp; omega)) ?_
  refine WC.skip ?_
  refine WC.seq ?_
  refine WC.region ?_
  refine WL.y (Yl.move rfl) rfl ?_
  refine WL.callC (xs := [_, _]) (cap := []) rfl rfl en15 (by repeat' constructor) (fun w hw => dev_any 1 0 w hw.left.here) rfl ?_
  rintro ⟨⟩ -
  refine WL.callC (xs := [_]) (cap := []) rfl rfl en19 (by repeat' constructor) (fun w hw => key_2 w hw.left.here) rfl ?_
  rintro ⟨⟩ -
  refine WL.callC (xs := [.tmp 35, .tmp 36, .tmp 37]) (cap := []) rfl rfl en14 (by repeat' constructor) (fun w hw => learn_at b ao cp mb 0 own [] EG.nil 1 (by decide) 0 (by decide) k2 0 rfl (by decide) w hw.left.here) rfl ?_
  rintro es1 ⟨p1, E1⟩
  rw [show pj [] = [] from rfl, kn_c1]
  rw [show pj [] = [] from rfl, kn1] at p1
  dsimp only [List.cons_append, List.nil_append]
  refine WL.y (Yl.move rfl) rfl ?_
  refine WL.y (Yl.extract rfl rfl) rfl ?_
  refine WL.y (Yl.extract rfl rfl) rfl ?_
  refine WL.y (Yl.assign rfl) rfl ?_
  refine WL.y (Yl.assign rfl) rfl ?_
  refine WL.nil ?_
  refine WC.seq ?_
  refine WC.region ?_
  refine WL.y (Yl.move rfl) rfl ?_
  refine WL.callC (xs := [.tmp 42, _]) (cap := []) rfl rfl en16 (by repeat' constructor) (fun w hw => numB_any b ao cp mb 0 own hown es1 E1 1 (by decide) w hw.left.here) rfl ?_
  rintro ⟨⟩ -
  rw [p1, kn_kys, hn, show numE [k2] = 0 from rfl]
  dsimp only [List.cons_append, List.nil_append]
  refine WL.y (Yl.move rfl) rfl ?_
  refine WL.y (Yl.extract rfl rfl) rfl ?_
  refine WL.y (Yl.extract rfl rfl) rfl ?_
  refine WL.y (Yl.assign rfl) rfl ?_
  refine WL.y (Yl.assign rfl) rfl ?_
  refine WL.nil ?_
  refine WC.seq ?_
  refine WC.seq ?_
  refine WC.region ?_
  refine WL.y (Yl.move rfl) rfl ?_
  refine WL.y (Yl.neq rfl rfl) rfl ?_
  refine WL.know (t := 47) (b' := false) rfl (by first | rfl | (simp; done) | (simp; omega)) ?_
  refine WL.y (Yl.move rfl) rfl ?_
  refine WL.on rfl rfl ?_
  refine WL.y (Yl.move rfl) rfl ?_
  refine WL.on rfl rfl ?_
  refine WL.y (Yl.neq rfl rfl) rfl ?_
  refine WL.know (t := 50) (b' := false) rfl (by first | rfl | (simp; done) | (simp; omega)) ?_
  refine WL.y (Yl.pickF rfl rfl) rfl ?_
  refine WL.y (Yl.move rfl) rfl ?_
  refine WL.on rfl rfl ?_
  refine WL.y (Yl.move rfl) rfl ?_
  refine WL.on rfl rfl ?_
  refine WL.y (Yl.lenT un9 rfl) rfl ?_
  refine WL.on rfl rfl ?_
  refine WL.y (Yl.neq rfl rfl) rfl ?_
  refine WL.know (t := 55) (b' := false) rfl (by simp [hnl]) ?_
  refine WL.y (Yl.pickF rfl rfl) rfl ?_
  refine WL.y (Yl.move rfl) rfl ?_
  refine WL.on rfl rfl ?_
  refine WL.y (Yl.move rfl) rfl ?_
  refine WL.on rfl rfl ?_
  refine WL.callC (xs := [.tmp 58, _]) (cap := []) rfl rfl en18 (by repeat' constructor) (fun w hw => state_any b ao cp mb 0 own es1 E1 1 (by decide) w hw.left.here) rfl ?_
  rintro ⟨⟩ -
  rw [p1, kn_st]
  dsimp only [List.cons_append, List.nil_append]
  refine WL.on rfl rfl ?_
  refine WL.y (Yl.neq rfl rfl) rfl ?_
  refine WL.know (t := 60) (b' := false) rfl (by first | rfl | (simp; done) | (simp; omega)) ?_
  refine WL.y (Yl.pickF rfl rfl) rfl ?_
  refine WL.y (Yl.move rfl) rfl ?_
  refine WL.on rfl rfl ?_
  refine WL.y (Yl.move rfl) rfl ?_
  refine WL.on rfl rfl ?_
  refine WL.y (Yl.move rfl) rfl ?_
  refine WL.on rfl rfl ?_
  refine WL.callC (xs := [.tmp 64]) (cap := []) rfl rfl en11 (by repeat' constructor) (fun w hw => spaced_any n hnd.bytes (by rw [hnl]; decide) w hw.left.here) rfl ?_
  rintro ⟨⟩ -
  refine WL.on rfl rfl ?_
  refine WL.callC (xs := [.tmp 63, _, .tmp 65]) (cap := []) rfl rfl en17 (by repeat' constructor) (fun w hw => verify_any m b ao cp mb 0 own hown es1 E1 1 (by decide) (spacedF n) (spacedF_by hnd.bytes) (by omega) w (hw.srcS hm) hw.left.here) rfl ?_
  rintro es2 ⟨p2, E2⟩
  rw [p1, kn_kys, hn] at p2 ⊢
  rw [show verE [k2] (spacedF n) n = 0 by unfold verE; rw [if_neg (by decide), if_pos hsb]]
  rw [show verC [((1 : Int), ctK k2 1)] 1 (spacedF n) n = [(1, ctK k2 2)] by unfold verC; rw [kn_kys, if_neg (by decide), if_pos hsb]; rfl] at p2
  dsimp only [List.cons_append, List.nil_append]
  refine WL.on rfl rfl ?_
  refine WL.y (Yl.neq rfl rfl) rfl ?_
  refine WL.know (t := 67) (b' := false) rfl (by first | rfl | (simp; done) | (simp; omega)) ?_
  refine WL.y (Yl.pickF rfl rfl) rfl ?_
  refine WL.y (Yl.move rfl) rfl ?_
  refine WL.on rfl rfl ?_
  refine WL.y (Yl.move rfl) rfl ?_
  refine WL.on rfl rfl ?_
  refine WL.callC (xs := [.tmp 70, _]) (cap := []) rfl rfl en18 (by repeat' constructor) (fun w hw => state_any b ao cp mb 0 own es2 E2 1 (by decide) w hw.left.here) rfl ?_
  rintro ⟨⟩ -
  rw [p2, kn_st]
  dsimp only [List.cons_append, List.nil_append]
  refine WL.on rfl rfl ?_
  refine WL.y (Yl.neq rfl rfl) rfl ?_
  refine WL.know (t := 72) (b' := false) rfl (by first | rfl | (simp; done) | (simp; omega)) ?_
  refine WL.y (Yl.pickF rfl rfl) rfl ?_
  refine WL.nil ?_
  refine WC.condF rfl (by first | rfl | (simp; done) | (simp; omega)) ?_
  refine WC.skip ?_
  refine WC.seq ?_
  refine WC.region ?_
  refine WL.y (Yl.move rfl) rfl ?_
  refine WL.callC (xs := [_, _]) (cap := []) rfl rfl en15 (by repeat' constructor) (fun w hw => dev_any 1 0 w hw.left.here) rfl ?_
  rintro ⟨⟩ -
  refine WL.callC (xs := [_]) (cap := []) rfl rfl en19 (by repeat' constructor) (fun w hw => key_2 w hw.left.here) rfl ?_
  rintro ⟨⟩ -
  refine WL.callC (xs := [.tmp 75, .tmp 76, .tmp 77]) (cap := []) rfl rfl en14 (by repeat' constructor) (fun w hw => learn_at b ao cp mb 0 own es2 E2 1 (by decide) 0 (by decide) k2 0 rfl (by decide) w hw.left.here) rfl ?_
  rintro es3 ⟨p3, E3⟩
  rw [p2, kn_c2]
  rw [p2, kn_same] at p3
  dsimp only [List.cons_append, List.nil_append]
  refine WL.y (Yl.move rfl) rfl ?_
  refine WL.y (Yl.extract rfl rfl) rfl ?_
  refine WL.y (Yl.extract rfl rfl) rfl ?_
  refine WL.y (Yl.assign rfl) rfl ?_
  refine WL.y (Yl.assign rfl) rfl ?_
  refine WL.nil ?_
  refine WC.seq ?_
  refine WC.region ?_
  refine WL.y (Yl.move rfl) rfl ?_
  refine WL.callC (xs := [_, _]) (cap := []) rfl rfl en15 (by repeat' constructor) (fun w hw => dev_any 1 0 w hw.left.here) rfl ?_
  rintro ⟨⟩ -
  refine WL.callC (xs := [_]) (cap := []) rfl rfl en19 (by repeat' constructor) (fun w hw => key_3 w hw.left.here) rfl ?_
  rintro ⟨⟩ -
  refine WL.callC (xs := [.tmp 82, .tmp 83, .tmp 84]) (cap := []) rfl rfl en14 (by repeat' constructor) (fun w hw => learn_at b ao cp mb 0 own es3 E3 1 (by decide) 0 (by decide) k3 0 rfl (by decide) w hw.left.here) rfl ?_
  rintro es4 ⟨p4, E4⟩
  rw [p3, kn_c3]
  rw [p3, kn_other] at p4
  dsimp only [List.cons_append, List.nil_append]
  refine WL.y (Yl.move rfl) rfl ?_
  refine WL.y (Yl.extract rfl rfl) rfl ?_
  refine WL.y (Yl.extract rfl rfl) rfl ?_
  refine WL.y (Yl.assign rfl) rfl ?_
  refine WL.y (Yl.assign rfl) rfl ?_
  refine WL.nil ?_
  refine WC.seq ?_
  refine WC.seq ?_
  refine WC.region ?_
  refine WL.y (Yl.move rfl) rfl ?_
  refine WL.y (Yl.move rfl) rfl ?_
  refine WL.know (t := 89) (b' := false) rfl (by first | rfl | (simp; done) | (simp; omega)) ?_
  refine WL.on rfl rfl ?_
  refine WL.y (Yl.move rfl) rfl ?_
  refine WL.on rfl rfl ?_
  refine WL.y (Yl.not rfl) rfl ?_
  refine WL.y (Yl.pickF rfl rfl) rfl ?_
  refine WL.know (t := 92) (b' := false) rfl (by first | rfl | (simp; done) | (simp; omega)) ?_
  refine WL.y (Yl.move rfl) rfl ?_
  refine WL.on rfl rfl ?_
  refine WL.y (Yl.move rfl) rfl ?_
  refine WL.on rfl rfl ?_
  refine WL.callC (xs := [.tmp 94, _]) (cap := []) rfl rfl en18 (by repeat' constructor) (fun w hw => state_any b ao cp mb 0 own es4 E4 1 (by decide) w hw.left.here) rfl ?_
  rintro ⟨⟩ -
  rw [p4, kn_st]
  dsimp only [List.cons_append, List.nil_append]
  refine WL.on rfl rfl ?_
  refine WL.y (Yl.neq rfl rfl) rfl ?_
  refine WL.know (t := 96) (b' := false) rfl (by first | rfl | (simp; done) | (simp; omega)) ?_
  refine WL.y (Yl.pickF rfl rfl) rfl ?_
  refine WL.y (Yl.move rfl) rfl ?_
  refine WL.on rfl rfl ?_
  refine WL.y (Yl.move rfl) rfl ?_
  refine WL.on rfl rfl ?_
  refine WL.callC (xs := [.tmp 99, _, _]) (cap := []) rfl rfl en17 (by repeat' constructor) (fun w hw => verify_any m b ao cp mb 0 own hown es4 E4 1 (by decide) [] (fun x h => nomatch h) (by simp) w (hw.srcS hm) hw.left.here) rfl ?_
  rintro es5 ⟨p5, E5⟩
  rw [p4, kn_kys, hn3] at p5 ⊢
  have hne : ¬ bareF [] = n3 := fun e => by rw [← e] at hn3l; cases hn3l
  rw [show verE [k3] [] n3 = 6 by unfold verE; rw [if_neg (by decide), if_neg hne]]
  rw [show verC [((1 : Int), ctK k3 3)] 1 [] n3 = [(1, ctK k3 3)] by unfold verC; rw [kn_kys, if_neg (by decide), if_neg hne]] at p5
  dsimp only [List.cons_append, List.nil_append]
  refine WL.on rfl rfl ?_
  refine WL.y (Yl.neq rfl rfl) rfl ?_
  refine WL.know (t := 101) (b' := false) rfl (by first | rfl | (simp; done) | (simp; omega)) ?_
  refine WL.y (Yl.pickF rfl rfl) rfl ?_
  refine WL.y (Yl.move rfl) rfl ?_
  refine WL.on rfl rfl ?_
  refine WL.y (Yl.move rfl) rfl ?_
  refine WL.on rfl rfl ?_
  refine WL.callC (xs := [.tmp 104, _]) (cap := []) rfl rfl en22 (by repeat' constructor) (fun w hw => accept_any b ao cp mb 0 own es5 E5 1 (by decide) w hw.left.here) rfl ?_
  rintro es6 ⟨p6, E6⟩
  rw [p5, kn_st, if_pos rfl]
  rw [p5, kn_st, if_pos rfl] at p6
  rw [show setSt [((1 : Int), ctK k3 3)] 1 1 = [(1, ctK k3 1)] from rfl] at p6
  dsimp only [List.cons_append, List.nil_append]
  refine WL.on rfl rfl ?_
  refine WL.y (Yl.neq rfl rfl) rfl ?_
  refine WL.know (t := 106) (b' := false) rfl (by first | rfl | (simp; done) | (simp; omega)) ?_
  refine WL.y (Yl.pickF rfl rfl) rfl ?_
  refine WL.y (Yl.move rfl) rfl ?_
  refine WL.on rfl rfl ?_
  refine WL.y (Yl.move rfl) rfl ?_
  refine WL.on rfl rfl ?_
  refine WL.callC (xs := [.tmp 109, _]) (cap := []) rfl rfl en18 (by repeat' constructor) (fun w hw => state_any b ao cp mb 0 own es6 E6 1 (by decide) w hw.left.here) rfl ?_
  rintro ⟨⟩ -
  rw [p6, kn_st]
  dsimp only [List.cons_append, List.nil_append]
  refine WL.on rfl rfl ?_
  refine WL.y (Yl.neq rfl rfl) rfl ?_
  refine WL.know (t := 111) (b' := false) rfl (by first | rfl | (simp; done) | (simp; omega)) ?_
  refine WL.y (Yl.pickF rfl rfl) rfl ?_
  refine WL.nil ?_
  refine WC.condF rfl (by first | rfl | (simp; done) | (simp; omega)) ?_
  refine WC.skip ?_
  refine WC.seq ?_
  refine WC.region ?_
  refine WL.y (Yl.move rfl) rfl ?_
  refine WL.callC (xs := [.tmp 114, _]) (cap := []) rfl rfl en16 (by repeat' constructor) (fun w hw => numB_any b ao cp mb 0 own hown es6 E6 2 (by decide) w hw.left.here) rfl ?_
  rintro ⟨⟩ -
  rw [p6, show kysAt [((1 : Int), ctK k3 1)] 2 = [] from rfl, show numE [] = 4 from rfl]
  dsimp only [List.cons_append, List.nil_append]
  refine WL.y (Yl.move rfl) rfl ?_
  refine WL.y (Yl.extract rfl rfl) rfl ?_
  refine WL.y (Yl.extract rfl rfl) rfl ?_
  refine WL.y (Yl.assign rfl) rfl ?_
  refine WL.y (Yl.assign rfl) rfl ?_
  refine WL.nil ?_
  refine WC.seq ?_
  refine WC.region ?_
  refine WL.callC (xs := [_]) (cap := []) rfl rfl en19 (by repeat' constructor) (fun w hw => key_1 w hw.left.here) rfl ?_
  rintro ⟨⟩ -
  refine WL.to (To.buildSlice (vs := [kyV k1]) un22 zs30 rfl rfl (fun v hv => by rw [List.mem_singleton] at hv; subst hv; unfold kyV; simp [Value.cells, Ky.clen]) (by decide) (by decide)) rfl ?_
  intro b120
  refine WL.callC (xs := [_, .tmp 120]) (cap := []) rfl rfl en13 (by repeat' constructor) (fun w hw => new_bad 8 (.slice (some ⟨b120, 0, none⟩) 1 1) 1 (by decide) (some ⟨b120, 0, none⟩) 1 rfl w hw.left.here) rfl ?_
  rintro ⟨⟩ -
  refine WL.y (Yl.move rfl) rfl ?_
  refine WL.y (Yl.extract rfl rfl) rfl ?_
  refine WL.y (Yl.extract rfl rfl) rfl ?_
  refine WL.y (Yl.assign rfl) rfl ?_
  refine WL.y (Yl.assign rfl) rfl ?_
  refine WL.nil ?_
  refine WC.seq ?_
  refine WC.region ?_
  refine WL.callC (xs := [_]) (cap := []) rfl rfl en23 (by repeat' constructor) (fun w hw => load_none w hw.left.here) rfl ?_
  rintro ⟨⟩ -
  refine WL.y (Yl.move rfl) rfl ?_
  refine WL.y (Yl.extract rfl rfl) rfl ?_
  refine WL.y (Yl.extract rfl rfl) rfl ?_
  refine WL.y (Yl.assign rfl) rfl ?_
  refine WL.y (Yl.assign rfl) rfl ?_
  refine WL.nil ?_
  refine WC.seq ?_
  refine WC.region ?_
  refine WL.y (Yl.assign rfl) rfl ?_
  refine WL.nil ?_
  refine WC.seq ?_
  refine WC.region ?_
  refine WL.y (Yl.move rfl) rfl ?_
  refine WL.callC (xs := [_, _]) (cap := []) rfl rfl en15 (by repeat' constructor) (fun w hw => dev_any 1 0 w hw.left.here) rfl ?_
  rintro ⟨⟩ -
  refine WL.callC (xs := [_]) (cap := []) rfl rfl en19 (by repeat' constructor) (fun w hw => key_1 w hw.left.here) rfl ?_
  rintro ⟨⟩ -
  refine WL.callC (xs := [.tmp 129, .tmp 130, .tmp 131]) (cap := []) rfl rfl en14 (by repeat' constructor) (fun w hw => learn_nil (.agg #[.int .u8 1, .int .u8 0]) 1 0 rfl k1 w hw.left.here) rfl ?_
  rintro ⟨⟩ -
  refine WL.y (Yl.move rfl) rfl ?_
  refine WL.y (Yl.extract rfl rfl) rfl ?_
  refine WL.y (Yl.extract rfl rfl) rfl ?_
  refine WL.y (Yl.assign rfl) rfl ?_
  refine WL.y (Yl.assign rfl) rfl ?_
  refine WL.nil ?_
  refine WC.seq ?_
  refine WC.region ?_
  refine WL.y (Yl.move rfl) rfl ?_
  refine WL.callC (xs := [.tmp 136, _]) (cap := []) rfl rfl en16 (by repeat' constructor) (fun w hw => numB_nil 1 w hw.left.here) rfl ?_
  rintro ⟨⟩ -
  refine WL.y (Yl.move rfl) rfl ?_
  refine WL.y (Yl.extract rfl rfl) rfl ?_
  refine WL.y (Yl.extract rfl rfl) rfl ?_
  refine WL.y (Yl.assign rfl) rfl ?_
  refine WL.y (Yl.assign rfl) rfl ?_
  refine WL.nil ?_
  refine WC.seq ?_
  refine WC.seq ?_
  refine WC.region ?_
  refine WL.y (Yl.move rfl) rfl ?_
  refine WL.callC (xs := [.tmp 140, _]) (cap := []) rfl rfl en20 (by repeat' constructor) (fun w hw => keys_nil 1 w hw.left.here) rfl ?_
  rintro ⟨⟨c2, c3⟩, own2⟩ -
  refine WL.nil ?_
  refine WC.block ?_
  refine WC.range (α := Unit) (xs := []) (fun _ _ => [blkR b0 4 [.bool false]]) (fun _ _ => True) () rfl en37 (fun x hx => nomatch hx) rfl (by repeat constructor) trivial (by repeat' constructor) (fun l i x s hx => by simp at hx) ?_
  rintro _ D -
  dsimp only [List.cons_append, List.nil_append, List.length_nil]
  refine WC.seq ?_
  refine WC.region ?_
  refine WL.y (Yl.move rfl) rfl ?_
  refine WL.y (Yl.eql rfl rfl) rfl ?_
  refine WL.y (Yl.move rfl) rfl ?_
  refine WL.know (t := 146) (b' := true) rfl (by first | rfl | (simp; done) | (simp; omega)) ?_
  refine WL.on rfl rfl ?_
  refine WL.y (Yl.move rfl) rfl ?_
  refine WL.on rfl rfl ?_
  refine WL.y (Yl.eql rfl rfl) rfl ?_
  refine WL.y (Yl.pickT rfl rfl) rfl ?_
  refine WL.y (Yl.move rfl) rfl ?_
  refine WL.know (t := 150) (b' := true) rfl (by first | rfl | (simp; done) | (simp; omega)) ?_
  refine WL.on rfl rfl ?_
  refine WL.y (Yl.move rfl) rfl ?_
  refine WL.on rfl rfl ?_
  refine WL.y (Yl.eql rfl rfl) rfl ?_
  refine WL.y (Yl.pickT rfl rfl) rfl ?_
  refine WL.y (Yl.move rfl) rfl ?_
  refine WL.know (t := 154) (b' := true) rfl (by first | rfl | (simp; done) | (simp; omega)) ?_
  refine WL.on rfl rfl ?_
  refine WL.y (Yl.move rfl) rfl ?_
  refine WL.on rfl rfl ?_
  refine WL.y (Yl.eql rfl rfl) rfl ?_
  refine WL.y (Yl.pickT rfl rfl) rfl ?_
  refine WL.y (Yl.move rfl) rfl ?_
  refine WL.know (t := 158) (b' := true) rfl (by first | rfl | (simp; done) | (simp; omega)) ?_
  refine WL.on rfl rfl ?_
  refine WL.y (Yl.move rfl) rfl ?_
  refine WL.on rfl rfl ?_
  refine WL.y (Yl.eql rfl rfl) rfl ?_
  refine WL.y (Yl.pickT rfl rfl) rfl ?_
  refine WL.y (Yl.move rfl) rfl ?_
  refine WL.know (t := 162) (b' := true) rfl (by first | rfl | (simp; done) | (simp; omega)) ?_
  refine WL.on rfl rfl ?_
  refine WL.y (Yl.move rfl) rfl ?_
  refine WL.on rfl rfl ?_
  refine WL.callC (xs := [_, _]) (cap := []) rfl rfl en15 (by repeat' constructor) (fun w hw => dev_any 1 0 w hw.left.here) rfl ?_
  rintro ⟨⟩ -
  refine WL.on rfl rfl ?_
  refine WL.callC (xs := [.tmp 163, .tmp 164]) (cap := []) rfl rfl en21 (by repeat' constructor) (fun w hw => forget_nil (.agg #[.int .u8 1, .int .u8 0]) 1 0 rfl w hw.left.here) rfl ?_
  rintro ⟨⟩ -
  refine WL.on rfl rfl ?_
  refine WL.y (Yl.eql rfl rfl) rfl ?_
  refine WL.y (Yl.pickT rfl rfl) rfl ?_
  refine WL.y (Yl.move rfl) rfl ?_
  refine WL.know (t := 168) (b' := true) rfl (by first | rfl | (simp; done) | (simp; omega)) ?_
  refine WL.on rfl rfl ?_
  refine WL.y (Yl.move rfl) rfl ?_
  refine WL.on rfl rfl ?_
  refine WL.callC (xs := [.tmp 169, _, _]) (cap := []) rfl rfl en17 (by repeat' constructor) (fun w hw => verify_nil 1 (.string ⟨#[]⟩) rfl w hw.left.here) rfl ?_
  rintro ⟨⟩ -
  refine WL.on rfl rfl ?_
  refine WL.y (Yl.eql rfl rfl) rfl ?_
  refine WL.y (Yl.pickT rfl rfl) rfl ?_
  refine WL.y (Yl.move rfl) rfl ?_
  refine WL.know (t := 173) (b' := true) rfl (by first | rfl | (simp; done) | (simp; omega)) ?_
  refine WL.on rfl rfl ?_
  refine WL.y (Yl.move rfl) rfl ?_
  refine WL.on rfl rfl ?_
  refine WL.callC (xs := [.tmp 174, _]) (cap := []) rfl rfl en22 (by repeat' constructor) (fun w hw => accept_nil 1 w hw.left.here) rfl ?_
  rintro ⟨⟩ -
  refine WL.on rfl rfl ?_
  refine WL.y (Yl.eql rfl rfl) rfl ?_
  refine WL.y (Yl.pickT rfl rfl) rfl ?_
  refine WL.y (Yl.move rfl) rfl ?_
  refine WL.know (t := 178) (b' := true) rfl (by first | rfl | (simp; done) | (simp; omega)) ?_
  refine WL.on rfl rfl ?_
  refine WL.y (Yl.move rfl) rfl ?_
  refine WL.on rfl rfl ?_
  refine WL.callC (xs := [.tmp 179, _]) (cap := []) rfl rfl en18 (by repeat' constructor) (fun w hw => state_nil 1 w hw.left.here) rfl ?_
  rintro ⟨⟩ -
  refine WL.on rfl rfl ?_
  refine WL.y (Yl.eql rfl rfl) rfl ?_
  refine WL.y (Yl.pickT rfl rfl) rfl ?_
  refine WL.y (Yl.move rfl) rfl ?_
  refine WL.know (t := 183) (b' := true) rfl (by first | rfl | (simp; done) | (simp; omega)) ?_
  refine WL.on rfl rfl ?_
  refine WL.y (Yl.move rfl) rfl ?_
  refine WL.on rfl rfl ?_
  refine WL.callC (xs := [.tmp 184]) (cap := []) rfl rfl en24 (by repeat' constructor) (fun w hw => bytes_nil w hw.left.here) rfl ?_
  rintro ⟨⟩ -
  refine WL.on rfl rfl ?_
  refine WL.y (Yl.len un58 rfl) rfl ?_
  refine WL.on rfl rfl ?_
  refine WL.y (Yl.eql rfl rfl) rfl ?_
  refine WL.y (Yl.pickT rfl rfl) rfl ?_
  refine WL.know (t := 188) (b' := true) rfl (by first | rfl | (simp; done) | (simp; omega)) ?_
  refine WL.sto (Sto.one sz4 rfl rfl (by repeat constructor) rfl (by rfl) (by rfl)) (fun _ h => nomatch h) ?_
  refine WL.nil ?_
  refine WC.ret ?_
  repeat (with_reducible (first | refine peelT ?_ | refine peelB ?_ | refine peelTX ?_ | refine peelBX ?_ | refine peelBN ?_ | refine peelBO rfl ?_))
  refine retM.of (.cons (by repeat constructor) .nil) ?_
  exact retV1 (.inr rfl) Tryz.results6 on4 rfl (by repeat constructor) fun w' h => ⟨(), trivial, rfl, h.sub (by repeat' constructor)⟩
end Go.Proofs.YtfobhdmhjjafcaaGreatDoorRR

namespace Go.Proofs.YtfobhdmhjjafcaaGreatDoorRR
open Go Go.RowKit
theorem numF_self (a : List Int) : numF a a = a ++ a := by unfold numF; rw [lexF_self, if_neg (by decide)]
theorem nums_of (s : ByteArray) : ∃ ys : List Int, Bytes ys ∧ s = strOfNums ys := by
  refine ⟨s.data.toList.map (fun b => (b.toNat : Int)), fun y hy => ?_, ?_⟩
  · obtain ⟨b, _, rfl⟩ := List.mem_map.1 hy
    have := b.toNat_lt
    omega
  · apply ByteArray.ext
    apply Array.toList_inj.1
    rw [strOfNums_data, List.map_map]
    refine ((List.map_id _).symm.trans (List.map_congr_left fun b _ => ?_))
    simp
set_option maxHeartbeats 1600000 in
set_option maxRecDepth 100000 in
theorem digits_law (m : Int) (acc : Int) (ha : 0 ≤ acc ∧ acc < 256) (x : List Ky) (v : Value) (a b : List Int) (hA : Bytes a) (hB : Bytes b) (w : World) (hw : OK w (fpL [rdR v 32 x.length (vcs kyV x), rdR mxV 1 1 [.int .i64 m]]) [rdR v 32 x.length (vcs kyV x), rdR mxV 1 1 [.int .i64 m]] w) :
    Fn Tryz.prog 3 [.int .u8 acc, v, .string (strOfNums a), .string (strOfNums b)] [rdR v 32 x.length (vcs kyV x), rdR mxV 1 1 [.int .i64 m]] w (fun _ : Unit => True) (fun _ => .bool true) (fun _ => []) := by
  obtain ⟨al, cl, rfl, hcl, hml⟩ := (hw.get .head : Rd _ _ _ _ _).form
  refine enterF Tryz.func3 rfl Tryz.ntmps3 rfl hw ?_
  refine WC.seq ?_
  refine WC.region ?_
  refine WL.y (Yl.assign rfl) rfl ?_
  refine WL.nil ?_
  refine WC.seq ?_
  refine WC.seq ?_
  refine WC.region ?_
  refine WL.callC (xs := []) (cap := []) rfl rfl en6 (by repeat' constructor) (fun w hw => known_any m w (hw.src (A := []) (r := rdR mxV 1 1 [.int .i64 m]) RdOf.rd' (by repeat constructor)) hw.left.here) rfl ?_
  rintro ⟨⟩ -
  refine WL.y (Yl.not rfl) rfl ?_
  refine WL.know (t := 12) (b' := false) rfl (by first | rfl | (simp; done) | (simp; omega)) ?_
  refine WL.nil ?_
  refine WC.condF rfl (by first | rfl | (simp; done) | (simp; omega)) ?_
  refine WC.skip ?_
  refine WC.seq ?_
  refine WC.midX (α := Bool) (fun q => [(0, .int .u8 acc), (1, .slice al x.length cl), (2, .string (strOfNums a)), (3, .string (strOfNums b)), (25, .bool q)]) (fun _ => [rdR (.slice al x.length cl) 32 x.length (vcs kyV x), rdR mxV 1 1 [.int .i64 m]]) (fun q => q = false → x.length ≤ 20 ∧ a.length ≤ 200 ∧ b.length ≤ 200) ?_ ?_
  · refine WC.region ?_
    refine WL.y (Yl.move rfl) rfl ?_
    refine WL.y (Yl.len un22 rfl) rfl ?_
    refine WL.y (Yl.gtr rfl rfl) rfl ?_
    refine WL.y (Yl.move rfl) rfl ?_
    refine WL.both (t := 16) rfl (fun g16 => ?_) (fun g16 => ?_)
    · refine WL.off rfl rfl rfl rfl ?_
      refine WL.off rfl rfl rfl rfl ?_
      refine WL.off rfl rfl rfl rfl ?_
      refine WL.y (Yl.pickT rfl rfl) rfl ?_
      refine WL.y (Yl.move rfl) rfl ?_
      refine WL.off rfl rfl rfl rfl ?_
      refine WL.off rfl rfl rfl rfl ?_
      refine WL.off rfl rfl rfl rfl ?_
      refine WL.y (Yl.pickT rfl rfl) rfl ?_
      refine WL.nil ?_
      refine ⟨rfl, _, ?_, (by repeat (first | exact Sub.nil | refine Sub.cons rfl ?_)), _, (by repeat' constructor)⟩
      first
      | exact fun h => by cases h
      | exact fun h => by
          have h2 := of_decide_eq_false h
          simp_all
          omega
    · refine WL.on rfl rfl ?_
      refine WL.y (Yl.move rfl) rfl ?_
      refine WL.on rfl rfl ?_
      refine WL.y (Yl.lenT un9 rfl) rfl ?_
      refine WL.on rfl rfl ?_
      refine WL.y (Yl.gtr rfl rfl) rfl ?_
      refine WL.y (Yl.pickF rfl rfl) rfl ?_
      refine WL.y (Yl.move rfl) rfl ?_
      refine WL.both (t := 21) rfl (fun g21 => ?_) (fun g21 => ?_)
      · refine WL.off rfl rfl rfl rfl ?_
        refine WL.off rfl rfl rfl rfl ?_
        refine WL.off rfl rfl rfl rfl ?_
        refine WL.y (Yl.pickT rfl rfl) rfl ?_
        refine WL.nil ?_
        refine ⟨rfl, _, ?_, (by repeat (first | exact Sub.nil | refine Sub.cons rfl ?_)), _, (by repeat' constructor)⟩
        first
        | exact fun h => by cases h
        | exact fun h => by
            have h2 := of_decide_eq_false h
            simp_all
            omega
      · refine WL.on rfl rfl ?_
        refine WL.y (Yl.move rfl) rfl ?_
        refine WL.on rfl rfl ?_
        refine WL.y (Yl.lenT un9 rfl) rfl ?_
        refine WL.on rfl rfl ?_
        refine WL.y (Yl.gtr rfl rfl) rfl ?_
        refine WL.y (Yl.pickF rfl rfl) rfl ?_
        refine WL.nil ?_
        refine ⟨rfl, _, ?_, (by repeat (first | exact Sub.nil | refine Sub.cons rfl ?_)), _, (by repeat' constructor)⟩
        first
        | exact fun h => by cases h
        | exact fun h => by
            have h2 := of_decide_eq_false h
            simp_all
            omega
  · rintro q hq
    refine WC.cond rfl (fun g25 => ?_) (fun g25 => ?_)
    · refine WC.seq ?_
      refine WC.region ?_
      refine WL.y (Yl.assign rfl) rfl ?_
      refine WL.nil ?_
      refine WC.ret ?_
      repeat (with_reducible (first | refine peelT ?_ | refine peelB ?_ | refine peelTX ?_ | refine peelBX ?_ | refine peelBN ?_ | refine peelBO rfl ?_))
      exact ret1 (.inr rfl) Tryz.results3 rfl fun w' h => ⟨(), trivial, rfl, h.sub (by repeat' constructor)⟩
    · refine WC.skip ?_
      refine WC.seq ?_
      obtain ⟨hx20, ha200, hb200⟩ := hq g25
      refine WC.region ?_
      refine WL.y (Yl.move rfl) rfl ?_
      refine WL.y (Yl.move rfl) rfl ?_
      refine WL.callC (xs := [.tmp 26, .tmp 27]) (cap := []) rfl rfl en7 (by repeat' constructor) (fun w hw => digits_any acc (.slice al x.length cl) x (by omega) w (hw.src (A := []) (r := rdR (.slice al x.length cl) 32 x.length (vcs kyV x)) RdOf.rd' (by repeat constructor)) hw.left.here) rfl ?_
      rintro ⟨⟩ -
      refine WL.y (Yl.assign rfl) rfl ?_
      refine WL.nil ?_
      refine WC.seq ?_
      refine WC.region ?_
      refine WL.y (Yl.move rfl) rfl ?_
      refine WL.y (Yl.move rfl) rfl ?_
      refine WL.callC (xs := [.tmp 29, .tmp 30]) (cap := []) rfl rfl en8 (by repeat' constructor) (fun w hw => number_any (digF acc x) a (digF_dig _ _).bytes hA (by rw [digF_len]; omega) w hw.left.here) rfl ?_
      rintro ⟨⟩ -
      refine WL.y (Yl.assign rfl) rfl ?_
      refine WL.nil ?_
      refine WC.seq ?_
      have hdb : Bytes (digF acc x) := (digF_dig _ _).bytes
      have hdl := digF_len acc x
      obtain ⟨D, hD⟩ : ∃ D, digF acc x = D := ⟨_, rfl⟩
      have hDn := fun (w : World) (h1 : RdS w (fpL []) (.slice al x.length cl) 32 x.length (vcs kyV x)) (h2 : OK w (fpL []) [] w) => rdig_any acc ha (.slice al x.length cl) x (by omega) w h1 h2
      rw [hD] at hdb hdl hDn ⊢
      have hnb : ∀ {p q : List Int}, Bytes p → Bytes q → Bytes (numF p q) := by
        intro p q hp hq
        unfold numF
        split
        · exact Bytes.app hq hp
        · exact Bytes.app hp hq
      refine WC.region ?_
      refine WL.y (Yl.move rfl) rfl ?_
      refine WL.y (Yl.move rfl) rfl ?_
      refine WL.y (Yl.move rfl) rfl ?_
      refine WL.callC (xs := [.tmp 33, .tmp 34]) (cap := []) rfl rfl en9 (by repeat' constructor) (fun w hw => hDn w (hw.src (A := []) (r := rdR (.slice al x.length cl) 32 x.length (vcs kyV x)) RdOf.rd' (by repeat constructor)) hw.left.here) rfl ?_
      rintro ⟨⟩ -
      refine WL.y (Yl.sEqT hdb hdb rfl rfl) rfl ?_
      refine WL.know (t := 36) (b' := true) rfl (by simp) ?_
      refine WL.y (Yl.move rfl) rfl ?_
      refine WL.know (t := 37) (b' := true) rfl (by first | rfl | (simp; done) | (simp; omega)) ?_
      refine WL.on rfl rfl ?_
      refine WL.y (Yl.move rfl) rfl ?_
      refine WL.on rfl rfl ?_
      refine WL.y (Yl.move rfl) rfl ?_
      refine WL.on rfl rfl ?_
      refine WL.y (Yl.move rfl) rfl ?_
      refine WL.on rfl rfl ?_
      refine WL.callC (xs := [.tmp 39, .tmp 40]) (cap := []) rfl rfl en10 (by repeat' constructor) (fun w hw => rnum_any D a hdb hA (by omega) w hw.left.here) rfl ?_
      rintro ⟨⟩ -
      refine WL.on rfl rfl ?_
      refine WL.y (Yl.sEqT (hnb hdb hA) (hnb hdb hA) rfl rfl) rfl ?_
      refine WL.know (t := 42) (b' := true) rfl (by simp) ?_
      refine WL.y (Yl.pickT rfl rfl) rfl ?_
      refine WL.y (Yl.move rfl) rfl ?_
      refine WL.know (t := 44) (b' := true) rfl (by first | rfl | (simp; done) | (simp; omega)) ?_
      refine WL.on rfl rfl ?_
      refine WL.y (Yl.move rfl) rfl ?_
      refine WL.on rfl rfl ?_
      refine WL.y (Yl.move rfl) rfl ?_
      refine WL.on rfl rfl ?_
      refine WL.callC (xs := [.tmp 45, .tmp 46]) (cap := []) rfl rfl en8 (by repeat' constructor) (fun w hw => number_any a b hA hB (by omega) w hw.left.here) rfl ?_
      rintro ⟨⟩ -
      refine WL.on rfl rfl ?_
      refine WL.y (Yl.move rfl) rfl ?_
      refine WL.on rfl rfl ?_
      refine WL.y (Yl.move rfl) rfl ?_
      refine WL.on rfl rfl ?_
      refine WL.callC (xs := [.tmp 48, .tmp 49]) (cap := []) rfl rfl en10 (by repeat' constructor) (fun w hw => rnum_any a b hA hB (by omega) w hw.left.here) rfl ?_
      rintro ⟨⟩ -
      refine WL.on rfl rfl ?_
      refine WL.y (Yl.sEqT (hnb hA hB) (hnb hA hB) rfl rfl) rfl ?_
      refine WL.know (t := 51) (b' := true) rfl (by simp) ?_
      refine WL.y (Yl.pickT rfl rfl) rfl ?_
      refine WL.y (Yl.move rfl) rfl ?_
      refine WL.know (t := 53) (b' := true) rfl (by first | rfl | (simp; done) | (simp; omega)) ?_
      refine WL.on rfl rfl ?_
      refine WL.y (Yl.move rfl) rfl ?_
      refine WL.on rfl rfl ?_
      refine WL.callC (xs := [.tmp 54]) (cap := []) rfl rfl en11 (by repeat' constructor) (fun w hw => spaced_any a hA (by omega) w hw.left.here) rfl ?_
      rintro ⟨⟩ -
      refine WL.on rfl rfl ?_
      refine WL.y (Yl.move rfl) rfl ?_
      refine WL.on rfl rfl ?_
      refine WL.callC (xs := [.tmp 56]) (cap := []) rfl rfl en12 (by repeat' constructor) (fun w hw => rspc_any a w hw.left.here) rfl ?_
      rintro ⟨⟩ -
      refine WL.on rfl rfl ?_
      refine WL.y (Yl.sEqT (spacedF_by hA) (spacedF_by hA) rfl rfl) rfl ?_
      refine WL.know (t := 58) (b' := true) rfl (by simp) ?_
      refine WL.y (Yl.pickT rfl rfl) rfl ?_
      refine WL.y (Yl.move rfl) rfl ?_
      refine WL.know (t := 60) (b' := true) rfl (by first | rfl | (simp; done) | (simp; omega)) ?_
      refine WL.on rfl rfl ?_
      refine WL.y (Yl.move rfl) rfl ?_
      refine WL.on rfl rfl ?_
      refine WL.y (Yl.move rfl) rfl ?_
      refine WL.on rfl rfl ?_
      refine WL.callC (xs := [.tmp 61, .tmp 62]) (cap := []) rfl rfl en8 (by repeat' constructor) (fun w hw => number_any D D hdb hdb (by omega) w hw.left.here) rfl ?_
      rintro ⟨⟩ -
      rw [numF_self]
      refine WL.on rfl rfl ?_
      refine WL.callC (xs := [.tmp 63]) (cap := []) rfl rfl en11 (by repeat' constructor) (fun w hw => spaced_any (D ++ D) (Bytes.app hdb hdb) (by rw [List.length_append]; omega) w hw.left.here) rfl ?_
      rintro ⟨⟩ -
      refine WL.on rfl rfl ?_
      refine WL.y (Yl.move rfl) rfl ?_
      refine WL.on rfl rfl ?_
      refine WL.y (Yl.move rfl) rfl ?_
      refine WL.on rfl rfl ?_
      refine WL.y (Yl.sAdd (by omega) rfl rfl) rfl ?_
      refine WL.on rfl rfl ?_
      refine WL.callC (xs := [.tmp 67]) (cap := []) rfl rfl en12 (by repeat' constructor) (fun w hw => rspc_any (D ++ D) w hw.left.here) rfl ?_
      rintro ⟨⟩ -
      refine WL.on rfl rfl ?_
      refine WL.y (Yl.sEqT (spacedF_by (Bytes.app hdb hdb)) (spacedF_by (Bytes.app hdb hdb)) rfl rfl) rfl ?_
      refine WL.know (t := 69) (b' := true) rfl (by simp) ?_
      refine WL.y (Yl.pickT rfl rfl) rfl ?_
      refine WL.y (Yl.assign rfl) rfl ?_
      refine WL.nil ?_
      refine WC.ret ?_
      repeat (with_reducible (first | refine peelT ?_ | refine peelB ?_ | refine peelTX ?_ | refine peelBX ?_ | refine peelBN ?_ | refine peelBO rfl ?_))
      exact ret1 (.inr rfl) Tryz.results3 rfl fun w' h => ⟨(), trivial, rfl, h.sub (by repeat' constructor)⟩
end Go.Proofs.YtfobhdmhjjafcaaGreatDoorRR

namespace Go.Proofs.YtfobhdmhjjafcaaGreatDoorRR
open Go Go.RowKit
set_option maxRecDepth 100000
theorem bulk_mem {H : Type} {d : DataW H} {l : List (DataW H)} (h : d ∈ l) : Rows.uptoBulk d ≤ Rows.uptoBulkAll l := by
  induction l with
  | nil => cases h
  | cons x r ih =>
    simp only [Rows.uptoBulkAll]
    cases List.mem_cons.1 h with
    | inl e => subst e; omega
    | inr e => have := ih e; omega
theorem bulk_one {H : Type} (d : DataW H) : 1 ≤ Rows.uptoBulk d := by
  cases d with
  | lit l => cases l <;> simp [Rows.uptoBulk]
  | nil => simp [Rows.uptoBulk]
  | ptr d => simp [Rows.uptoBulk]
  | slice elems spare => simp [Rows.uptoBulk]
  | agg parts => simp [Rows.uptoBulk]
  | iface t d => simp [Rows.uptoBulk]
  | map entries => simp [Rows.uptoBulk]
  | held h => simp [Rows.uptoBulk]
theorem bulk_len {H : Type} (l : List (DataW H)) : l.length ≤ Rows.uptoBulkAll l := by
  induction l with
  | nil => simp [Rows.uptoBulkAll]
  | cons x r ih => have := bulk_one x; simp only [Rows.uptoBulkAll, List.length_cons]; omega
theorem bulkMu {H : Type} : Mu (Rows.uptoBulk (H := H)) where
  len := fun elems spare => by have := bulk_len elems; simp only [Rows.uptoBulk]; omega
  elem := fun elems spare d h => by have := bulk_mem h; simp only [Rows.uptoBulk]; omega
  agg := fun parts d h => by have := bulk_mem h; simp only [Rows.uptoBulk]; omega
theorem mx_int {w : World} (h : w.ShapedOpen Tryz.prog) : ∃ m, Rd w 1 mxV 1 [.int .i64 m] := by
  obtain ⟨m, hm⟩ : ∃ m, w.cell? ⟨0, 0, none⟩ = some (.int .i64 m) := cell_of_shapedOpen_int (g := 0) (t := 3) (zero := #[.int .i64 0]) (k := .i64) h (of_decide_eq_true (by kernel_rfl)) (by kernel_rfl) rfl (by kernel_rfl) (by kernel_rfl) (by kernel_rfl)
  refine ⟨m, rfl, .inr ⟨_, _, rfl, Nat.le_refl _, by unfold maxLen; omega, fun j u hj => ⟨rfl, ?_⟩⟩⟩
  cases j with
  | zero => cases hj; exact hm
  | succ j => simp at hj
theorem key_of {cs : List Value} (h : Fits1 (List.replicate 32 (some .u8)) cs) : ∃ k : Ky, cs = k.cells := by
  obtain ⟨ys, rfl, h1, h2⟩ := fits_bytes h
  exact ⟨⟨ys, h1, h2⟩, rfl⟩
section
variable {H : Type} {enc : TypeId × Value → H} {w : World} {base : Nat} {sp : Nat → Bool} {held : Bool}
theorem open_keys {a : Option Addr} {len cap : Nat} {x : DataW H} {p : List MemPlace} (h : DataW.Trod enc Tryz.prog w base sp held 22 (.slice a len cap) x p) :
    ∃ ks : List Ky, ks.length = len ∧ len ≤ Rows.uptoBulk x ∧ Rd w 32 (.slice a len cap) len (vcs kyV ks) := by
  obtain ⟨xss, h1, h2, h3⟩ := open_flats (d := 5) (ks := List.replicate 32 (some .u8)) un22 (by kernel_rfl) (by kernel_rfl) h
  obtain ⟨fuel, ht⟩ := h
  have hm := mu_slice bulkMu un22 ht
  have : ∃ ks : List Ky, xss = ks.map Ky.cells := by
    clear h1 h3
    induction xss with
    | nil => exact ⟨[], rfl⟩
    | cons ys xss ih =>
      obtain ⟨ks, rfl⟩ := ih (fun zs hz => h2 zs (by simp [hz]))
      obtain ⟨k, rfl⟩ := key_of (h2 ys (by simp)).1
      exact ⟨k :: ks, rfl⟩
  obtain ⟨ks, rfl⟩ := this
  refine ⟨ks, by rw [← h1, List.length_map], hm, ?_⟩
  have e : (ks.map Ky.cells).flatten = vcs kyV ks := by
    clear h1 h2 h3
    induction ks with
    | nil => rfl
    | cons k ks ih => rw [List.map_cons, List.flatten_cons, ih, vcs_cons, kyV_cells]
  rw [← e]
  exact h3
end
end Go.Proofs.YtfobhdmhjjafcaaGreatDoorRR

namespace Go.Proofs.YtfobhdmhjjafcaaGreatDoorRR
open Go Go.RowKit
end Go.Proofs.YtfobhdmhjjafcaaGreatDoorRR
