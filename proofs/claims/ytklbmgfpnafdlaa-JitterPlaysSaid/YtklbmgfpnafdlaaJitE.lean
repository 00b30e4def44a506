/- The chapter's rows: the walk. -/
import Derived.Test.YtklbmgfpnafdlaaJitD
import Derived.Test.YtklbmgfpnafdlaaJitBS
namespace Go.Proofs.Ytklbmgfpnafdlaa
open Go Go.RowKit

def zS : Value := .string ⟨#[]⟩
def s7 : Value := .string ⟨#[55]⟩
def s8 : Value := .string ⟨#[56]⟩
def s9 : Value := .string ⟨#[57]⟩
def s11 : Value := .string ⟨#[49, 49]⟩
def q0 : Jb := Jb.init 50 20
def q1 : Jb := (q0.put 7 100 s7).1
def q2 : Jb := (q1.put 9 130 s9).1
def q3 : Jb := (q2.next 150 zS).1
def q4 : Jb := (q3.put 8 165 s8).1
def q5 : Jb := (q4.next 170 zS).1
def q6 : Jb := (q5.put 8 175 s8).1
def q7 : Jb := (q6.next 190 zS).1
def q8 : Jb := (q7.put 11 211 s11).1
def q9 : Jb := (q8.next 211 zS).1
theorem e0 : q0.put 7 100 s7 = (q1, 0) := by kernel_rfl
theorem e1 : q1.put 9 130 s9 = (q2, 0) := by kernel_rfl
theorem e2 : (if q2.m.isEmpty then 0 else q2.due q2.nx) = 150 := by kernel_rfl
theorem e2b : (!q2.m.isEmpty) = true := by kernel_rfl
theorem e3 : q2.next 149 zS = (q2, zS, 0, false, false) := by kernel_rfl
theorem e4 : q2.next 150 zS = (q3, s7, 7, false, true) := by kernel_rfl
theorem e5 : q3.next 160 zS = (q3, zS, 0, false, false) := by kernel_rfl
theorem e6 : q3.put 8 165 s8 = (q4, 0) := by kernel_rfl
theorem e7 : q4.next 170 zS = (q5, s8, 8, false, true) := by kernel_rfl
theorem e8 : q5.put 8 175 s8 = (q6, 161) := by kernel_rfl
theorem e9 : q6.next 190 zS = (q7, s9, 9, false, true) := by kernel_rfl
theorem e10 : q7.next 210 zS = (q7, zS, 0, false, false) := by kernel_rfl
theorem e11 : q7.put 11 211 s11 = (q8, 0) := by kernel_rfl
theorem e12 : q8.next 211 zS = (q9, zS, 10, true, true) := by kernel_rfl
theorem u6 {n : Int} (h : 0 ≤ n ∧ n < 18446744073709551616) : U6 n := h
theorem o0 : q0.ok := Jb.init_ok (u6 (by omega)) (u6 (by omega))
theorem o1 : q1.ok := Jb.put_ok o0 (u6 (by omega)) (u6 (by omega))
theorem o2 : q2.ok := Jb.put_ok o1 (u6 (by omega)) (u6 (by omega))
theorem o3 : q3.ok := Jb.next_ok o2
theorem o4 : q4.ok := Jb.put_ok o3 (u6 (by omega)) (u6 (by omega))
theorem o5 : q5.ok := Jb.next_ok o4
theorem o6 : q6.ok := Jb.put_ok o5 (u6 (by omega)) (u6 (by omega))
theorem o7 : q7.ok := Jb.next_ok o6
theorem o8 : q8.ok := Jb.put_ok o7 (u6 (by omega)) (u6 (by omega))

set_option maxRecDepth 100000 in
theorem known_any (w : World) (hw : OK w (fpL []) [] w) : Fn Try.prog 7 [] [] w (fun _ : Unit => True) (fun _ => .bool true) (fun _ => []) := by
  refine enterM Try.func7 rfl Try.ntmps7 rfl hw ?_
  refine WC.seq ?_
  refine WC.region ?_
  refine WL.to (To.alloc (cs := [.bool false]) zr4 rfl) rfl ?_ -- t0
  intro b0
  refine WL.nil ?_
  refine WC.seq ?_
  refine WC.region ?_
  refine WL.callC (xs := [_, _]) (cap := []) rfl rfl en29 (by repeat (first | exact TakeL.nil | (apply TakeL.cons; · repeat (first | exact Take1.head | apply Take1.tail)))) (fun w hw => newS_any 50 20 ⟨by omega, by omega⟩ ⟨by omega, by omega⟩ w hw.left.here) rfl ?_ -- t39 hailer/jitter.New[string]
  rintro ⟨b, m⟩ -
  rw [show Jb.init 50 20 = q0 from rfl]
  dsimp only [jb, List.cons_append, List.nil_append]
  refine WL.y (Yl.move rfl) rfl ?_ -- t38
  refine WL.y (Yl.extract rfl rfl) rfl ?_ -- t40
  refine WL.y (Yl.extract rfl rfl) rfl ?_ -- t41
  refine WL.y (Yl.assign rfl) rfl ?_ -- t1
  refine WL.y (Yl.assign rfl) rfl ?_ -- t2
  refine WL.nil ?_
  refine WC.seq ?_
  refine WC.seq ?_
  refine WC.region ?_
  refine WL.y (Yl.move rfl) rfl ?_ -- t42
  refine WL.y (Yl.neq rfl rfl) rfl ?_ -- t43
  refine WL.know (t := 43) (b' := false) rfl (by first | rfl | (simp; done) | (simp; omega)) ?_
  refine WL.y (Yl.move rfl) rfl ?_ -- t44
  refine WL.on rfl rfl ?_
  refine WL.y (Yl.move rfl) rfl ?_ -- t45
  refine WL.on rfl rfl ?_
  refine WL.y (Yl.nilEq un80 rfl rfl) rfl ?_ -- t46
  refine WL.know (t := 46) (b' := false) rfl (by first | rfl | (simp; done) | (simp; omega)) ?_
  refine WL.y (Yl.pickF rfl rfl) rfl ?_ -- t47
  refine WL.y (Yl.move rfl) rfl ?_ -- t48
  refine WL.on rfl rfl ?_
  refine WL.y (Yl.move rfl) rfl ?_ -- t49
  refine WL.on rfl rfl ?_
  refine WL.callC (xs := [.tmp 49, _, _, _]) (cap := []) rfl rfl en30 (by repeat (first | exact TakeL.nil | (apply TakeL.cons; · repeat (first | exact Take1.head | apply Take1.tail)))) (fun w hw => putS_any b m q0 7 100 s7 o0 (u6 (by omega)) (u6 (by omega)) w hw.left.here) rfl ?_ -- t50 (*hailer/jitter.Buffer[string]).Put
  rintro ⟨⟩ -
  rw [e0]
  dsimp only [jb, List.cons_append, List.nil_append]
  refine WL.on rfl rfl ?_
  refine WL.y (Yl.neq rfl rfl) rfl ?_ -- t51
  refine WL.know (t := 51) (b' := false) rfl (by first | rfl | (simp; done) | (simp; omega)) ?_
  refine WL.y (Yl.pickF rfl rfl) rfl ?_ -- t52
  refine WL.y (Yl.move rfl) rfl ?_ -- t53
  refine WL.on rfl rfl ?_
  refine WL.y (Yl.move rfl) rfl ?_ -- t54
  refine WL.on rfl rfl ?_
  refine WL.callC (xs := [.tmp 54, _, _, _]) (cap := []) rfl rfl en30 (by repeat (first | exact TakeL.nil | (apply TakeL.cons; · repeat (first | exact Take1.head | apply Take1.tail)))) (fun w hw => putS_any b m q1 9 130 s9 o1 (u6 (by omega)) (u6 (by omega)) w hw.left.here) rfl ?_ -- t55 (*hailer/jitter.Buffer[string]).Put
  rintro ⟨⟩ -
  rw [e1]
  dsimp only [jb, List.cons_append, List.nil_append]
  refine WL.on rfl rfl ?_
  refine WL.y (Yl.neq rfl rfl) rfl ?_ -- t56
  refine WL.know (t := 56) (b' := false) rfl (by first | rfl | (simp; done) | (simp; omega)) ?_
  refine WL.y (Yl.pickF rfl rfl) rfl ?_ -- t57
  refine WL.know (t := 57) (b' := false) rfl (by first | rfl | (simp; done) | (simp; omega)) ?_
  refine WL.nil ?_
  refine WC.condF rfl (by first | rfl | (simp; done) | (simp; omega)) ?_
  refine WC.skip ?_
  refine WC.seq ?_
  refine WC.region ?_
  refine WL.y (Yl.move rfl) rfl ?_ -- t59
  refine WL.callC (xs := [.tmp 59]) (cap := []) rfl rfl en31 (by repeat (first | exact TakeL.nil | (apply TakeL.cons; · repeat (first | exact Take1.head | apply Take1.tail)))) (fun w hw => dueFS_any b m q2 o2 w hw.left.here) rfl ?_ -- t60 (*hailer/jitter.Buffer[string]).Due
  rintro ⟨⟩ -
  rw [e2, e2b]
  dsimp only [jb, List.cons_append, List.nil_append]
  refine WL.y (Yl.move rfl) rfl ?_ -- t58
  refine WL.y (Yl.extract rfl rfl) rfl ?_ -- t61
  refine WL.y (Yl.extract rfl rfl) rfl ?_ -- t62
  refine WL.y (Yl.assign rfl) rfl ?_ -- t3
  refine WL.y (Yl.assign rfl) rfl ?_ -- t4
  refine WL.nil ?_
  refine WC.seq ?_
  refine WC.region ?_
  refine WL.y (Yl.move rfl) rfl ?_ -- t64
  refine WL.callC (xs := [.tmp 64, _]) (cap := []) rfl rfl en32 (by repeat (first | exact TakeL.nil | (apply TakeL.cons; · repeat (first | exact Take1.head | apply Take1.tail)))) (fun w hw => nextS_any b m q2 149 o2 w hw.left.here) rfl ?_ -- t65 (*hailer/jitter.Buffer[string]).Next
  rintro ⟨⟩ -
  rw [show Value.string ⟨#[]⟩ = zS from rfl, e3]
  dsimp only [jb, List.cons_append, List.nil_append]
  refine WL.y (Yl.move rfl) rfl ?_ -- t63
  refine WL.y (Yl.extract rfl rfl) rfl ?_ -- t66
  refine WL.y (Yl.extract rfl rfl) rfl ?_ -- t67
  refine WL.y (Yl.extract rfl rfl) rfl ?_ -- t68
  refine WL.y (Yl.extract rfl rfl) rfl ?_ -- t69
  refine WL.y (Yl.assign rfl) rfl ?_ -- t5
  refine WL.y (Yl.assign rfl) rfl ?_ -- t6
  refine WL.y (Yl.assign rfl) rfl ?_ -- t7
  refine WL.y (Yl.assign rfl) rfl ?_ -- t8
  refine WL.nil ?_
  refine WC.seq ?_
  refine WC.region ?_
  refine WL.y (Yl.move rfl) rfl ?_ -- t71
  refine WL.callC (xs := [.tmp 71, _]) (cap := []) rfl rfl en32 (by repeat (first | exact TakeL.nil | (apply TakeL.cons; · repeat (first | exact Take1.head | apply Take1.tail)))) (fun w hw => nextS_any b m q2 150 o2 w hw.left.here) rfl ?_ -- t72 (*hailer/jitter.Buffer[string]).Next
  rintro ⟨⟩ -
  rw [show Value.string ⟨#[]⟩ = zS from rfl, e4]
  dsimp only [jb, List.cons_append, List.nil_append]
  refine WL.y (Yl.move rfl) rfl ?_ -- t70
  refine WL.y (Yl.extract rfl rfl) rfl ?_ -- t73
  refine WL.y (Yl.extract rfl rfl) rfl ?_ -- t74
  refine WL.y (Yl.extract rfl rfl) rfl ?_ -- t75
  refine WL.y (Yl.extract rfl rfl) rfl ?_ -- t76
  refine WL.y (Yl.assign rfl) rfl ?_ -- t9
  refine WL.y (Yl.assign rfl) rfl ?_ -- t10
  refine WL.y (Yl.assign rfl) rfl ?_ -- t11
  refine WL.y (Yl.assign rfl) rfl ?_ -- t12
  refine WL.nil ?_
  refine WC.seq ?_
  refine WC.region ?_
  refine WL.y (Yl.move rfl) rfl ?_ -- t78
  refine WL.callC (xs := [.tmp 78, _]) (cap := []) rfl rfl en32 (by repeat (first | exact TakeL.nil | (apply TakeL.cons; · repeat (first | exact Take1.head | apply Take1.tail)))) (fun w hw => nextS_any b m q3 160 o3 w hw.left.here) rfl ?_ -- t79 (*hailer/jitter.Buffer[string]).Next
  rintro ⟨⟩ -
  rw [show Value.string ⟨#[]⟩ = zS from rfl, e5]
  dsimp only [jb, List.cons_append, List.nil_append]
  refine WL.y (Yl.move rfl) rfl ?_ -- t77
  refine WL.y (Yl.extract rfl rfl) rfl ?_ -- t80
  refine WL.y (Yl.extract rfl rfl) rfl ?_ -- t81
  refine WL.y (Yl.extract rfl rfl) rfl ?_ -- t82
  refine WL.y (Yl.extract rfl rfl) rfl ?_ -- t83
  refine WL.y (Yl.assign rfl) rfl ?_ -- t13
  refine WL.y (Yl.assign rfl) rfl ?_ -- t14
  refine WL.y (Yl.assign rfl) rfl ?_ -- t15
  refine WL.y (Yl.assign rfl) rfl ?_ -- t16
  refine WL.nil ?_
  refine WC.seq ?_
  refine WC.seq ?_
  refine WC.region ?_
  refine WL.y (Yl.move rfl) rfl ?_ -- t84
  refine WL.y (Yl.neq rfl rfl) rfl ?_ -- t85
  refine WL.know (t := 85) (b' := false) rfl (by first | rfl | (simp; done) | (simp; omega)) ?_
  refine WL.y (Yl.move rfl) rfl ?_ -- t86
  refine WL.on rfl rfl ?_
  refine WL.y (Yl.move rfl) rfl ?_ -- t87
  refine WL.on rfl rfl ?_
  refine WL.y (Yl.not rfl) rfl ?_ -- t88
  refine WL.know (t := 88) (b' := false) rfl (by first | rfl | (simp; done) | (simp; omega)) ?_
  refine WL.y (Yl.pickF rfl rfl) rfl ?_ -- t89
  refine WL.y (Yl.move rfl) rfl ?_ -- t90
  refine WL.on rfl rfl ?_
  refine WL.y (Yl.move rfl) rfl ?_ -- t91
  refine WL.y (Yl.pickF rfl rfl) rfl ?_ -- t92
  refine WL.know (t := 92) (b' := false) rfl (by first | rfl | (simp; done) | (simp; omega)) ?_
  refine WL.y (Yl.move rfl) rfl ?_ -- t93
  refine WL.on rfl rfl ?_
  refine WL.y (Yl.move rfl) rfl ?_ -- t94
  refine WL.on rfl rfl ?_
  refine WL.y (Yl.sNe rfl rfl) rfl ?_ -- t95
  refine WL.know (t := 95) (b' := false) rfl (by first | rfl | (simp; done) | (simp; omega)) ?_
  refine WL.y (Yl.pickF rfl rfl) rfl ?_ -- t96
  refine WL.y (Yl.move rfl) rfl ?_ -- t97
  refine WL.on rfl rfl ?_
  refine WL.y (Yl.move rfl) rfl ?_ -- t98
  refine WL.on rfl rfl ?_
  refine WL.y (Yl.neq rfl rfl) rfl ?_ -- t99
  refine WL.know (t := 99) (b' := false) rfl (by first | rfl | (simp; done) | (simp; omega)) ?_
  refine WL.y (Yl.pickF rfl rfl) rfl ?_ -- t100
  refine WL.y (Yl.move rfl) rfl ?_ -- t101
  refine WL.on rfl rfl ?_
  refine WL.y (Yl.move rfl) rfl ?_ -- t102
  refine WL.y (Yl.pickF rfl rfl) rfl ?_ -- t103
  refine WL.know (t := 103) (b' := false) rfl (by first | rfl | (simp; done) | (simp; omega)) ?_
  refine WL.y (Yl.move rfl) rfl ?_ -- t104
  refine WL.on rfl rfl ?_
  refine WL.y (Yl.move rfl) rfl ?_ -- t105
  refine WL.on rfl rfl ?_
  refine WL.y (Yl.not rfl) rfl ?_ -- t106
  refine WL.know (t := 106) (b' := false) rfl (by first | rfl | (simp; done) | (simp; omega)) ?_
  refine WL.y (Yl.pickF rfl rfl) rfl ?_ -- t107
  refine WL.y (Yl.move rfl) rfl ?_ -- t108
  refine WL.on rfl rfl ?_
  refine WL.y (Yl.move rfl) rfl ?_ -- t109
  refine WL.y (Yl.pickF rfl rfl) rfl ?_ -- t110
  refine WL.know (t := 110) (b' := false) rfl (by first | rfl | (simp; done) | (simp; omega)) ?_
  refine WL.y (Yl.move rfl) rfl ?_ -- t111
  refine WL.on rfl rfl ?_
  refine WL.y (Yl.move rfl) rfl ?_ -- t112
  refine WL.on rfl rfl ?_
  refine WL.callC (xs := [.tmp 112, _, _, _]) (cap := []) rfl rfl en30 (by repeat (first | exact TakeL.nil | (apply TakeL.cons; · repeat (first | exact Take1.head | apply Take1.tail)))) (fun w hw => putS_any b m q3 8 165 s8 o3 (u6 (by omega)) (u6 (by omega)) w hw.left.here) rfl ?_ -- t113 (*hailer/jitter.Buffer[string]).Put
  rintro ⟨⟩ -
  rw [e6]
  dsimp only [jb, List.cons_append, List.nil_append]
  refine WL.on rfl rfl ?_
  refine WL.y (Yl.neq rfl rfl) rfl ?_ -- t114
  refine WL.know (t := 114) (b' := false) rfl (by first | rfl | (simp; done) | (simp; omega)) ?_
  refine WL.y (Yl.pickF rfl rfl) rfl ?_ -- t115
  refine WL.know (t := 115) (b' := false) rfl (by first | rfl | (simp; done) | (simp; omega)) ?_
  refine WL.nil ?_
  refine WC.condF rfl (by first | rfl | (simp; done) | (simp; omega)) ?_
  refine WC.skip ?_
  refine WC.seq ?_
  refine WC.region ?_
  refine WL.y (Yl.move rfl) rfl ?_ -- t117
  refine WL.callC (xs := [.tmp 117, _]) (cap := []) rfl rfl en32 (by repeat (first | exact TakeL.nil | (apply TakeL.cons; · repeat (first | exact Take1.head | apply Take1.tail)))) (fun w hw => nextS_any b m q4 170 o4 w hw.left.here) rfl ?_ -- t118 (*hailer/jitter.Buffer[string]).Next
  rintro ⟨⟩ -
  rw [show Value.string ⟨#[]⟩ = zS from rfl, e7]
  dsimp only [jb, List.cons_append, List.nil_append]
  refine WL.y (Yl.move rfl) rfl ?_ -- t116
  refine WL.y (Yl.extract rfl rfl) rfl ?_ -- t119
  refine WL.y (Yl.extract rfl rfl) rfl ?_ -- t120
  refine WL.y (Yl.extract rfl rfl) rfl ?_ -- t121
  refine WL.y (Yl.extract rfl rfl) rfl ?_ -- t122
  refine WL.y (Yl.assign rfl) rfl ?_ -- t9
  refine WL.y (Yl.assign rfl) rfl ?_ -- t10
  refine WL.y (Yl.assign rfl) rfl ?_ -- t11
  refine WL.y (Yl.assign rfl) rfl ?_ -- t12
  refine WL.nil ?_
  refine WC.seq ?_
  refine WC.seq ?_
  refine WC.region ?_
  refine WL.y (Yl.move rfl) rfl ?_ -- t123
  refine WL.y (Yl.sNe rfl rfl) rfl ?_ -- t124
  refine WL.know (t := 124) (b' := false) rfl (by first | rfl | (simp; done) | (simp; omega)) ?_
  refine WL.y (Yl.move rfl) rfl ?_ -- t125
  refine WL.on rfl rfl ?_
  refine WL.y (Yl.move rfl) rfl ?_ -- t126
  refine WL.on rfl rfl ?_
  refine WL.y (Yl.neq rfl rfl) rfl ?_ -- t127
  refine WL.know (t := 127) (b' := false) rfl (by first | rfl | (simp; done) | (simp; omega)) ?_
  refine WL.y (Yl.pickF rfl rfl) rfl ?_ -- t128
  refine WL.y (Yl.move rfl) rfl ?_ -- t129
  refine WL.on rfl rfl ?_
  refine WL.y (Yl.move rfl) rfl ?_ -- t130
  refine WL.y (Yl.pickF rfl rfl) rfl ?_ -- t131
  refine WL.know (t := 131) (b' := false) rfl (by first | rfl | (simp; done) | (simp; omega)) ?_
  refine WL.y (Yl.move rfl) rfl ?_ -- t132
  refine WL.on rfl rfl ?_
  refine WL.y (Yl.move rfl) rfl ?_ -- t133
  refine WL.on rfl rfl ?_
  refine WL.y (Yl.not rfl) rfl ?_ -- t134
  refine WL.know (t := 134) (b' := false) rfl (by first | rfl | (simp; done) | (simp; omega)) ?_
  refine WL.y (Yl.pickF rfl rfl) rfl ?_ -- t135
  refine WL.y (Yl.move rfl) rfl ?_ -- t136
  refine WL.on rfl rfl ?_
  refine WL.y (Yl.move rfl) rfl ?_ -- t137
  refine WL.on rfl rfl ?_
  refine WL.callC (xs := [.tmp 137, _, _, _]) (cap := []) rfl rfl en30 (by repeat (first | exact TakeL.nil | (apply TakeL.cons; · repeat (first | exact Take1.head | apply Take1.tail)))) (fun w hw => putS_any b m q5 8 175 s8 o5 (u6 (by omega)) (u6 (by omega)) w hw.left.here) rfl ?_ -- t138 (*hailer/jitter.Buffer[string]).Put
  rintro ⟨⟩ -
  rw [e8]
  dsimp only [jb, List.cons_append, List.nil_append]
  refine WL.on rfl rfl ?_
  refine WL.y (Yl.neq rfl rfl) rfl ?_ -- t139
  refine WL.know (t := 139) (b' := false) rfl (by first | rfl | (simp; done) | (simp; omega)) ?_
  refine WL.y (Yl.pickF rfl rfl) rfl ?_ -- t140
  refine WL.know (t := 140) (b' := false) rfl (by first | rfl | (simp; done) | (simp; omega)) ?_
  refine WL.nil ?_
  refine WC.condF rfl (by first | rfl | (simp; done) | (simp; omega)) ?_
  refine WC.skip ?_
  refine WC.seq ?_
  refine WC.region ?_
  refine WL.y (Yl.move rfl) rfl ?_ -- t142
  refine WL.callC (xs := [.tmp 142, _]) (cap := []) rfl rfl en32 (by repeat (first | exact TakeL.nil | (apply TakeL.cons; · repeat (first | exact Take1.head | apply Take1.tail)))) (fun w hw => nextS_any b m q6 190 o6 w hw.left.here) rfl ?_ -- t143 (*hailer/jitter.Buffer[string]).Next
  rintro ⟨⟩ -
  rw [show Value.string ⟨#[]⟩ = zS from rfl, e9]
  dsimp only [jb, List.cons_append, List.nil_append]
  refine WL.y (Yl.move rfl) rfl ?_ -- t141
  refine WL.y (Yl.extract rfl rfl) rfl ?_ -- t144
  refine WL.y (Yl.extract rfl rfl) rfl ?_ -- t145
  refine WL.y (Yl.extract rfl rfl) rfl ?_ -- t146
  refine WL.y (Yl.extract rfl rfl) rfl ?_ -- t147
  refine WL.y (Yl.assign rfl) rfl ?_ -- t17
  refine WL.y (Yl.assign rfl) rfl ?_ -- t18
  refine WL.y (Yl.assign rfl) rfl ?_ -- t19
  refine WL.y (Yl.assign rfl) rfl ?_ -- t20
  refine WL.nil ?_
  refine WC.seq ?_
  refine WC.region ?_
  refine WL.y (Yl.move rfl) rfl ?_ -- t149
  refine WL.callC (xs := [.tmp 149, _]) (cap := []) rfl rfl en32 (by repeat (first | exact TakeL.nil | (apply TakeL.cons; · repeat (first | exact Take1.head | apply Take1.tail)))) (fun w hw => nextS_any b m q7 210 o7 w hw.left.here) rfl ?_ -- t150 (*hailer/jitter.Buffer[string]).Next
  rintro ⟨⟩ -
  rw [show Value.string ⟨#[]⟩ = zS from rfl, e10]
  dsimp only [jb, List.cons_append, List.nil_append]
  refine WL.y (Yl.move rfl) rfl ?_ -- t148
  refine WL.y (Yl.extract rfl rfl) rfl ?_ -- t151
  refine WL.y (Yl.extract rfl rfl) rfl ?_ -- t152
  refine WL.y (Yl.extract rfl rfl) rfl ?_ -- t153
  refine WL.y (Yl.extract rfl rfl) rfl ?_ -- t154
  refine WL.y (Yl.assign rfl) rfl ?_ -- t21
  refine WL.y (Yl.assign rfl) rfl ?_ -- t22
  refine WL.y (Yl.assign rfl) rfl ?_ -- t23
  refine WL.y (Yl.assign rfl) rfl ?_ -- t24
  refine WL.nil ?_
  refine WC.seq ?_
  refine WC.region ?_
  refine WL.y (Yl.move rfl) rfl ?_ -- t155
  refine WL.callC (xs := [.tmp 155, _, _, _]) (cap := []) rfl rfl en30 (by repeat (first | exact TakeL.nil | (apply TakeL.cons; · repeat (first | exact Take1.head | apply Take1.tail)))) (fun w hw => putS_any b m q7 11 211 s11 o7 (u6 (by omega)) (u6 (by omega)) w hw.left.here) rfl ?_ -- t156 (*hailer/jitter.Buffer[string]).Put
  rintro ⟨⟩ -
  rw [e11]
  dsimp only [jb, List.cons_append, List.nil_append]
  refine WL.nil ?_
  refine WC.seq ?_
  refine WC.region ?_
  refine WL.y (Yl.move rfl) rfl ?_ -- t158
  refine WL.callC (xs := [.tmp 158, _]) (cap := []) rfl rfl en32 (by repeat (first | exact TakeL.nil | (apply TakeL.cons; · repeat (first | exact Take1.head | apply Take1.tail)))) (fun w hw => nextS_any b m q8 211 o8 w hw.left.here) rfl ?_ -- t159 (*hailer/jitter.Buffer[string]).Next
  rintro ⟨⟩ -
  rw [show Value.string ⟨#[]⟩ = zS from rfl, e12]
  dsimp only [jb, List.cons_append, List.nil_append]
  refine WL.y (Yl.move rfl) rfl ?_ -- t157
  refine WL.y (Yl.extract rfl rfl) rfl ?_ -- t160
  refine WL.y (Yl.extract rfl rfl) rfl ?_ -- t161
  refine WL.y (Yl.extract rfl rfl) rfl ?_ -- t162
  refine WL.y (Yl.extract rfl rfl) rfl ?_ -- t163
  refine WL.y (Yl.assign rfl) rfl ?_ -- t25
  refine WL.y (Yl.assign rfl) rfl ?_ -- t26
  refine WL.y (Yl.assign rfl) rfl ?_ -- t27
  refine WL.y (Yl.assign rfl) rfl ?_ -- t28
  refine WL.nil ?_
  refine WC.seq ?_
  refine WC.region ?_
  refine WL.callC (xs := [_, _]) (cap := []) rfl rfl en33 (by repeat (first | exact TakeL.nil | (apply TakeL.cons; · repeat (first | exact Take1.head | apply Take1.tail)))) (fun w hw => newT_bad w hw.left.here) rfl ?_ -- t165 hailer/jitter.New[int]
  rintro ⟨⟩ -
  refine WL.y (Yl.move rfl) rfl ?_ -- t164
  refine WL.y (Yl.extract rfl rfl) rfl ?_ -- t166
  refine WL.y (Yl.extract rfl rfl) rfl ?_ -- t167
  refine WL.y (Yl.assign rfl) rfl ?_ -- t29
  refine WL.y (Yl.assign rfl) rfl ?_ -- t30
  refine WL.nil ?_
  refine WC.seq ?_
  refine WC.region ?_
  refine WL.y (Yl.assign rfl) rfl ?_ -- t31
  refine WL.nil ?_
  refine WC.seq ?_
  refine WC.region ?_
  refine WL.y (Yl.move rfl) rfl ?_ -- t169
  refine WL.callC (xs := [.tmp 169, _]) (cap := []) rfl rfl en34 (by repeat (first | exact TakeL.nil | (apply TakeL.cons; · repeat (first | exact Take1.head | apply Take1.tail)))) (fun w hw => nextT_nil 5 w hw.left.here) rfl ?_ -- t170 (*hailer/jitter.Buffer[int]).Next
  rintro ⟨⟩ -
  refine WL.y (Yl.move rfl) rfl ?_ -- t168
  refine WL.y (Yl.extract rfl rfl) rfl ?_ -- t171
  refine WL.y (Yl.extract rfl rfl) rfl ?_ -- t172
  refine WL.y (Yl.extract rfl rfl) rfl ?_ -- t173
  refine WL.y (Yl.extract rfl rfl) rfl ?_ -- t174
  refine WL.y (Yl.assign rfl) rfl ?_ -- t32
  refine WL.y (Yl.assign rfl) rfl ?_ -- t33
  refine WL.y (Yl.assign rfl) rfl ?_ -- t34
  refine WL.y (Yl.assign rfl) rfl ?_ -- t35
  refine WL.nil ?_
  refine WC.seq ?_
  refine WC.region ?_
  refine WL.y (Yl.move rfl) rfl ?_ -- t176
  refine WL.callC (xs := [.tmp 176]) (cap := []) rfl rfl en35 (by repeat (first | exact TakeL.nil | (apply TakeL.cons; · repeat (first | exact Take1.head | apply Take1.tail)))) (fun w hw => dueT_nil w hw.left.here) rfl ?_ -- t177 (*hailer/jitter.Buffer[int]).Due
  rintro ⟨⟩ -
  refine WL.y (Yl.move rfl) rfl ?_ -- t175
  refine WL.y (Yl.extract rfl rfl) rfl ?_ -- t178
  refine WL.y (Yl.extract rfl rfl) rfl ?_ -- t179
  refine WL.y (Yl.assign rfl) rfl ?_ -- t36
  refine WL.y (Yl.assign rfl) rfl ?_ -- t37
  refine WL.nil ?_
  refine WC.seq ?_
  refine WC.seq ?_
  refine WC.region ?_
  refine WL.y (Yl.move rfl) rfl ?_ -- t180
  refine WL.callC (xs := [.tmp 180]) (cap := []) rfl rfl en36 (by repeat (first | exact TakeL.nil | (apply TakeL.cons; · repeat (first | exact Take1.head | apply Take1.tail)))) (fun w hw => allT_nil w hw.left.here) rfl ?_ -- t181 (*hailer/jitter.Buffer[int]).All
  rintro ⟨bn, own⟩ -
  refine WL.nil ?_
  refine WC.block ?_
  refine WC.range (α := Unit) (xs := []) (fun _ _ => [blkR b0 4 [.bool false]]) (fun _ _ => True) () rfl en54 (fun x hx => nomatch hx) rfl (by repeat (first | exact Take1.head | apply Take1.tail)) trivial (by repeat (first | exact TakeL.nil | (apply TakeL.cons; · repeat (first | exact Take1.head | apply Take1.tail)))) (fun l i x s hx => by simp at hx) ?_
  rintro _ D -
  dsimp only [List.cons_append, List.nil_append, List.length_nil]
  refine WC.seq ?_
  refine WC.seq ?_
  refine WC.region ?_
  refine WL.y (Yl.move rfl) rfl ?_ -- t184
  refine WL.callC (xs := [.tmp 184, _]) (cap := []) rfl rfl en37 (by repeat (first | exact TakeL.nil | (apply TakeL.cons; · repeat (first | exact Take1.head | apply Take1.tail)))) (fun w hw => playT_nil 1 w hw.left.here) rfl ?_ -- t185 (*hailer/jitter.Buffer[int]).Play
  rintro ⟨bn2, bn3, own2⟩ -
  refine WL.nil ?_
  refine WC.block ?_
  refine WC.range (α := Unit) (xs := []) (fun _ _ => [blkR b0 4 [.bool false]]) (fun _ _ => True) () rfl en57 (fun x hx => nomatch hx) rfl (by repeat (first | exact Take1.head | apply Take1.tail)) trivial (by repeat (first | exact TakeL.nil | (apply TakeL.cons; · repeat (first | exact Take1.head | apply Take1.tail)))) (fun l i x s hx => by simp at hx) ?_
  rintro _ D2 -
  dsimp only [List.cons_append, List.nil_append, List.length_nil]
  refine WC.seq ?_
  refine WC.region ?_
  refine WL.y (Yl.move rfl) rfl ?_ -- t188
  refine WL.y (Yl.sEq rfl rfl) rfl ?_ -- t189
  refine WL.know (t := 189) (b' := true) rfl (by first | rfl | (simp; done) | (simp; omega)) ?_
  refine WL.y (Yl.move rfl) rfl ?_ -- t190
  refine WL.on rfl rfl ?_
  refine WL.y (Yl.move rfl) rfl ?_ -- t191
  refine WL.on rfl rfl ?_
  refine WL.y (Yl.eql rfl rfl) rfl ?_ -- t192
  refine WL.know (t := 192) (b' := true) rfl (by first | rfl | (simp; done) | (simp; omega)) ?_
  refine WL.y (Yl.pickT rfl rfl) rfl ?_ -- t193
  refine WL.y (Yl.move rfl) rfl ?_ -- t194
  refine WL.on rfl rfl ?_
  refine WL.y (Yl.move rfl) rfl ?_ -- t195
  refine WL.on rfl rfl ?_
  refine WL.y (Yl.not rfl) rfl ?_ -- t196
  refine WL.know (t := 196) (b' := true) rfl (by first | rfl | (simp; done) | (simp; omega)) ?_
  refine WL.y (Yl.pickT rfl rfl) rfl ?_ -- t197
  refine WL.y (Yl.move rfl) rfl ?_ -- t198
  refine WL.on rfl rfl ?_
  refine WL.y (Yl.move rfl) rfl ?_ -- t199
  refine WL.on rfl rfl ?_
  refine WL.y (Yl.eql rfl rfl) rfl ?_ -- t200
  refine WL.know (t := 200) (b' := true) rfl (by first | rfl | (simp; done) | (simp; omega)) ?_
  refine WL.y (Yl.pickT rfl rfl) rfl ?_ -- t201
  refine WL.y (Yl.move rfl) rfl ?_ -- t202
  refine WL.on rfl rfl ?_
  refine WL.y (Yl.move rfl) rfl ?_ -- t203
  refine WL.y (Yl.pickT rfl rfl) rfl ?_ -- t204
  refine WL.know (t := 204) (b' := true) rfl (by first | rfl | (simp; done) | (simp; omega)) ?_
  refine WL.y (Yl.move rfl) rfl ?_ -- t205
  refine WL.on rfl rfl ?_
  refine WL.y (Yl.move rfl) rfl ?_ -- t206
  refine WL.y (Yl.pickT rfl rfl) rfl ?_ -- t207
  refine WL.know (t := 207) (b' := true) rfl (by first | rfl | (simp; done) | (simp; omega)) ?_
  refine WL.y (Yl.move rfl) rfl ?_ -- t208
  refine WL.on rfl rfl ?_
  refine WL.y (Yl.move rfl) rfl ?_ -- t209
  refine WL.on rfl rfl ?_
  refine WL.y (Yl.eql rfl rfl) rfl ?_ -- t210
  refine WL.know (t := 210) (b' := true) rfl (by first | rfl | (simp; done) | (simp; omega)) ?_
  refine WL.y (Yl.pickT rfl rfl) rfl ?_ -- t211
  refine WL.y (Yl.move rfl) rfl ?_ -- t212
  refine WL.on rfl rfl ?_
  refine WL.y (Yl.move rfl) rfl ?_ -- t213
  refine WL.on rfl rfl ?_
  refine WL.callC (xs := [.tmp 213, _, _, _]) (cap := []) rfl rfl en38 (by repeat (first | exact TakeL.nil | (apply TakeL.cons; · repeat (first | exact Take1.head | apply Take1.tail)))) (fun w hw => putT_nil 1 1 (.int .i64 1) w hw.left.here) rfl ?_ -- t214 (*hailer/jitter.Buffer[int]).Put
  rintro ⟨⟩ -
  refine WL.on rfl rfl ?_
  refine WL.y (Yl.eql rfl rfl) rfl ?_ -- t215
  refine WL.know (t := 215) (b' := true) rfl (by first | rfl | (simp; done) | (simp; omega)) ?_
  refine WL.y (Yl.pickT rfl rfl) rfl ?_ -- t216
  refine WL.y (Yl.move rfl) rfl ?_ -- t217
  refine WL.on rfl rfl ?_
  refine WL.y (Yl.move rfl) rfl ?_ -- t218
  refine WL.on rfl rfl ?_
  refine WL.y (Yl.not rfl) rfl ?_ -- t219
  refine WL.know (t := 219) (b' := true) rfl (by first | rfl | (simp; done) | (simp; omega)) ?_
  refine WL.y (Yl.pickT rfl rfl) rfl ?_ -- t220
  refine WL.y (Yl.move rfl) rfl ?_ -- t221
  refine WL.on rfl rfl ?_
  refine WL.y (Yl.move rfl) rfl ?_ -- t222
  refine WL.on rfl rfl ?_
  refine WL.y (Yl.not rfl) rfl ?_ -- t223
  refine WL.know (t := 223) (b' := true) rfl (by first | rfl | (simp; done) | (simp; omega)) ?_
  refine WL.y (Yl.pickT rfl rfl) rfl ?_ -- t224
  refine WL.y (Yl.move rfl) rfl ?_ -- t225
  refine WL.on rfl rfl ?_
  refine WL.y (Yl.move rfl) rfl ?_ -- t226
  refine WL.on rfl rfl ?_
  refine WL.callC (xs := [.tmp 226]) (cap := []) rfl rfl en39 (by repeat (first | exact TakeL.nil | (apply TakeL.cons; · repeat (first | exact Take1.head | apply Take1.tail)))) (fun w hw => sumsT_nil w hw.left.here) rfl ?_ -- t227 (*hailer/jitter.Buffer[int]).Sums
  rintro ⟨⟩ -
  refine WL.on rfl rfl ?_
  refine WL.y (Yl.build rfl (cs := List.replicate 6 (.int .u64 0)) (fun _ => by kernel_rfl)) rfl ?_ -- t228
  refine WL.on rfl rfl ?_
  refine WL.y (Yl.eqlG rfl rfl (b := true) (fun w => by kernel_rfl)) rfl ?_
  refine WL.y (Yl.pickT rfl rfl) rfl ?_ -- t230
  refine WL.sto (Sto.one sz4 rfl rfl (by repeat (first | exact Take1.head | apply Take1.tail)) rfl (by rfl) (by rfl)) (fun _ h => nomatch h) ?_ -- st 6
  refine WL.nil ?_
  refine WC.ret ?_
  repeat (first | (with_reducible refine peelT ?_) | (with_reducible refine peelB ?_) | (with_reducible refine peelTX ?_) | (with_reducible refine peelBX ?_) | (with_reducible refine peelBN ?_) | (with_reducible refine peelBO rfl ?_))
  refine retM.of (.cons (by repeat (first | exact Take1.head | apply Take1.tail)) (.cons (by repeat (first | exact Take1.head | apply Take1.tail)) .nil)) ?_
  exact retV1 (.inr rfl) Try.results7 on4 rfl (by repeat (first | exact Take1.head | apply Take1.tail)) fun w' h => ⟨(), trivial, rfl, h.sub (by repeat (first | exact TakeL.nil | (apply TakeL.cons; · repeat (first | exact Take1.head | apply Take1.tail))))⟩
end Go.Proofs.Ytklbmgfpnafdlaa
