/- Facts on the types and functions of the program, each closed. -/
import Derived.Test.YtfobhdmhjjafcaaGreatDoorRRProg
import Derived.Test.YtfobhdmhjjafcaaGreatDoorRRLibW
namespace Go.Proofs.YtfobhdmhjjafcaaGreatDoorRR
open Go Go.RowKit
theorem mixed : Tryz.prog.follows .mixedOrders = true := by kernel_rfl
theorem un3 : Tryz.prog.underlying 3 = some (.int .i64) := Tryz.underlying3
theorem on3 : isOne Tryz.prog 3 = true := by kernel_rfl
theorem sz3 : (Tryz.prog.info? 3).map (·.size) = some 1 := by kernel_rfl
theorem zr3 : (Tryz.prog.info? 3).map (·.zero) = some (some (.int .i64 0 : Value)) := by kernel_rfl
theorem on4 : isOne Tryz.prog 4 = true := by kernel_rfl
theorem sz4 : (Tryz.prog.info? 4).map (·.size) = some 1 := by kernel_rfl
theorem zr4 : (Tryz.prog.info? 4).map (·.zero) = some (some (.bool false : Value)) := by kernel_rfl
theorem un5 : Tryz.prog.underlying 5 = some (.int .u8) := Tryz.underlying5
theorem on5 : isOne Tryz.prog 5 = true := by kernel_rfl
theorem sz5 : (Tryz.prog.info? 5).map (·.size) = some 1 := by kernel_rfl
theorem zs5 : (Tryz.prog.info? 5).map (fun i => (i.zero, i.size)) = some (some (.int .u8 0 : Value), 1) := by kernel_rfl
theorem un9 : Tryz.prog.underlying 9 = some (.string) := Tryz.underlying9
theorem zs9 : (Tryz.prog.info? 9).map (fun i => (i.zero, i.size)) = some (some (.string ByteArray.empty : Value), 1) := by kernel_rfl
theorem un22 : Tryz.prog.underlying 22 = some (.slice 30) := Tryz.underlying22
theorem on22 : isOne Tryz.prog 22 = true := by kernel_rfl
theorem sz22 : (Tryz.prog.info? 22).map (·.size) = some 1 := by kernel_rfl
theorem zr22 : (Tryz.prog.info? 22).map (·.zero) = some (some (.slice none 0 0 : Value)) := by kernel_rfl
theorem un30 : Tryz.prog.underlying 30 = some (.array 32 5) := Tryz.underlying30
theorem ag30 : aggB Tryz.prog 30 32 = true := by kernel_rfl
theorem sz30 : (Tryz.prog.info? 30).map (·.size) = some 32 := by kernel_rfl
theorem zr30 : (Tryz.prog.info? 30).map (·.zero) = some (some (.agg #[.int .u8 0, .int .u8 0, .int .u8 0, .int .u8 0, .int .u8 0, .int .u8 0, .int .u8 0, .int .u8 0, .int .u8 0, .int .u8 0, .int .u8 0, .int .u8 0, .int .u8 0, .int .u8 0, .int .u8 0, .int .u8 0, .int .u8 0, .int .u8 0, .int .u8 0, .int .u8 0, .int .u8 0, .int .u8 0, .int .u8 0, .int .u8 0, .int .u8 0, .int .u8 0, .int .u8 0, .int .u8 0, .int .u8 0, .int .u8 0, .int .u8 0, .int .u8 0] : Value)) := by kernel_rfl
theorem zs30 : (Tryz.prog.info? 30).map (fun i => (i.zero, i.size)) = some (some (.agg #[.int .u8 0, .int .u8 0, .int .u8 0, .int .u8 0, .int .u8 0, .int .u8 0, .int .u8 0, .int .u8 0, .int .u8 0, .int .u8 0, .int .u8 0, .int .u8 0, .int .u8 0, .int .u8 0, .int .u8 0, .int .u8 0, .int .u8 0, .int .u8 0, .int .u8 0, .int .u8 0, .int .u8 0, .int .u8 0, .int .u8 0, .int .u8 0, .int .u8 0, .int .u8 0, .int .u8 0, .int .u8 0, .int .u8 0, .int .u8 0, .int .u8 0, .int .u8 0] : Value), 32) := by kernel_rfl
theorem un33 : Tryz.prog.underlying 33 = some (.pointer 82) := Tryz.underlying33
theorem on33 : isOne Tryz.prog 33 = true := by kernel_rfl
theorem ag40 : aggB Tryz.prog 40 2 = true := by kernel_rfl
theorem sz40 : (Tryz.prog.info? 40).map (·.size) = some 2 := by kernel_rfl
theorem fo40_0 : fieldOff Tryz.prog 40 0 = some 0 := by kernel_rfl
theorem fo40_1 : fieldOff Tryz.prog 40 1 = some 1 := by kernel_rfl
theorem zr40 : (Tryz.prog.info? 40).map (·.zero) = some (some (.agg #[.int .u8 0, .int .u8 0] : Value)) := by kernel_rfl
theorem un58 : Tryz.prog.underlying 58 = some (.slice 5) := Tryz.underlying58
theorem on58 : isOne Tryz.prog 58 = true := by kernel_rfl
theorem sz58 : (Tryz.prog.info? 58).map (·.size) = some 1 := by kernel_rfl
theorem zs58 : (Tryz.prog.info? 58).map (fun i => (i.zero, i.size)) = some (some (.slice none 0 0 : Value), 1) := by kernel_rfl
theorem un61 : Tryz.prog.underlying 61 = some (.array 64 5) := Tryz.underlying61
theorem ag61 : aggB Tryz.prog 61 64 = true := by kernel_rfl
theorem sz61 : (Tryz.prog.info? 61).map (·.size) = some 64 := by kernel_rfl
theorem zr61 : (Tryz.prog.info? 61).map (·.zero) = some (some (.agg #[.int .u8 0, .int .u8 0, .int .u8 0, .int .u8 0, .int .u8 0, .int .u8 0, .int .u8 0, .int .u8 0, .int .u8 0, .int .u8 0, .int .u8 0, .int .u8 0, .int .u8 0, .int .u8 0, .int .u8 0, .int .u8 0, .int .u8 0, .int .u8 0, .int .u8 0, .int .u8 0, .int .u8 0, .int .u8 0, .int .u8 0, .int .u8 0, .int .u8 0, .int .u8 0, .int .u8 0, .int .u8 0, .int .u8 0, .int .u8 0, .int .u8 0, .int .u8 0, .int .u8 0, .int .u8 0, .int .u8 0, .int .u8 0, .int .u8 0, .int .u8 0, .int .u8 0, .int .u8 0, .int .u8 0, .int .u8 0, .int .u8 0, .int .u8 0, .int .u8 0, .int .u8 0, .int .u8 0, .int .u8 0, .int .u8 0, .int .u8 0, .int .u8 0, .int .u8 0, .int .u8 0, .int .u8 0, .int .u8 0, .int .u8 0, .int .u8 0, .int .u8 0, .int .u8 0, .int .u8 0, .int .u8 0, .int .u8 0, .int .u8 0, .int .u8 0] : Value)) := by kernel_rfl
theorem un63 : Tryz.prog.underlying 63 = some (.pointer 65) := Tryz.underlying63
theorem on63 : isOne Tryz.prog 63 = true := by kernel_rfl
theorem sz63 : (Tryz.prog.info? 63).map (·.size) = some 1 := by kernel_rfl
theorem sz65 : (Tryz.prog.info? 65).map (·.size) = some 2 := by kernel_rfl
theorem fo65_0 : fieldOff Tryz.prog 65 0 = some 0 := by kernel_rfl
theorem fo65_1 : fieldOff Tryz.prog 65 1 = some 1 := by kernel_rfl
theorem zr65 : (Tryz.prog.info? 65).map (·.zero) = some (some (.agg #[.pointer none, .slice none 0 0] : Value)) := by kernel_rfl
theorem un66 : Tryz.prog.underlying 66 = some (.int .u64) := Tryz.underlying66
theorem on66 : isOne Tryz.prog 66 = true := by kernel_rfl
theorem sz66 : (Tryz.prog.info? 66).map (·.size) = some 1 := by kernel_rfl
theorem zs66 : (Tryz.prog.info? 66).map (fun i => (i.zero, i.size)) = some (some (.int .u64 0 : Value), 1) := by kernel_rfl
theorem un67 : Tryz.prog.underlying 67 = some (.int .u64) := Tryz.underlying67
theorem un75 : Tryz.prog.underlying 75 = some (.slice 9) := Tryz.underlying75
theorem on75 : isOne Tryz.prog 75 = true := by kernel_rfl
theorem sz75 : (Tryz.prog.info? 75).map (·.size) = some 1 := by kernel_rfl
theorem zr75 : (Tryz.prog.info? 75).map (·.zero) = some (some (.slice none 0 0 : Value)) := by kernel_rfl
theorem un80 : Tryz.prog.underlying 80 = some (.map 5 83) := Tryz.underlying80
theorem on80 : isOne Tryz.prog 80 = true := by kernel_rfl
theorem fo82_0 : fieldOff Tryz.prog 82 0 = some 0 := by kernel_rfl
theorem fo82_1 : fieldOff Tryz.prog 82 1 = some 1 := by kernel_rfl
theorem fo82_2 : fieldOff Tryz.prog 82 2 = some 2 := by kernel_rfl
theorem un83 : Tryz.prog.underlying 83 = some (.pointer 87) := Tryz.underlying83
theorem un84 : Tryz.prog.underlying 84 = some (.array 4 30) := Tryz.underlying84
theorem un85 : Tryz.prog.underlying 85 = some (.array 4 4) := Tryz.underlying85
theorem ag85 : aggB Tryz.prog 85 4 = true := by kernel_rfl
theorem ag87 : aggB Tryz.prog 87 133 = true := by kernel_rfl
theorem sz87 : (Tryz.prog.info? 87).map (·.size) = some 133 := by kernel_rfl
theorem fo87_0 : fieldOff Tryz.prog 87 0 = some 0 := by kernel_rfl
theorem fo87_1 : fieldOff Tryz.prog 87 1 = some 128 := by kernel_rfl
theorem fo87_2 : fieldOff Tryz.prog 87 2 = some 132 := by kernel_rfl
theorem zr87 : (Tryz.prog.info? 87).map (·.zero) = some (some (.agg #[.int .u8 0, .int .u8 0, .int .u8 0, .int .u8 0, .int .u8 0, .int .u8 0, .int .u8 0, .int .u8 0, .int .u8 0, .int .u8 0, .int .u8 0, .int .u8 0, .int .u8 0, .int .u8 0, .int .u8 0, .int .u8 0, .int .u8 0, .int .u8 0, .int .u8 0, .int .u8 0, .int .u8 0, .int .u8 0, .int .u8 0, .int .u8 0, .int .u8 0, .int .u8 0, .int .u8 0, .int .u8 0, .int .u8 0, .int .u8 0, .int .u8 0, .int .u8 0, .int .u8 0, .int .u8 0, .int .u8 0, .int .u8 0, .int .u8 0, .int .u8 0, .int .u8 0, .int .u8 0, .int .u8 0, .int .u8 0, .int .u8 0, .int .u8 0, .int .u8 0, .int .u8 0, .int .u8 0, .int .u8 0, .int .u8 0, .int .u8 0, .int .u8 0, .int .u8 0, .int .u8 0, .int .u8 0, .int .u8 0, .int .u8 0, .int .u8 0, .int .u8 0, .int .u8 0, .int .u8 0, .int .u8 0, .int .u8 0, .int .u8 0, .int .u8 0, .int .u8 0, .int .u8 0, .int .u8 0, .int .u8 0, .int .u8 0, .int .u8 0, .int .u8 0, .int .u8 0, .int .u8 0, .int .u8 0, .int .u8 0, .int .u8 0, .int .u8 0, .int .u8 0, .int .u8 0, .int .u8 0, .int .u8 0, .int .u8 0, .int .u8 0, .int .u8 0, .int .u8 0, .int .u8 0, .int .u8 0, .int .u8 0, .int .u8 0, .int .u8 0, .int .u8 0, .int .u8 0, .int .u8 0, .int .u8 0, .int .u8 0, .int .u8 0, .int .u8 0, .int .u8 0, .int .u8 0, .int .u8 0, .int .u8 0, .int .u8 0, .int .u8 0, .int .u8 0, .int .u8 0, .int .u8 0, .int .u8 0, .int .u8 0, .int .u8 0, .int .u8 0, .int .u8 0, .int .u8 0, .int .u8 0, .int .u8 0, .int .u8 0, .int .u8 0, .int .u8 0, .int .u8 0, .int .u8 0, .int .u8 0, .int .u8 0, .int .u8 0, .int .u8 0, .int .u8 0, .int .u8 0, .int .u8 0, .int .u8 0, .int .u8 0, .bool false, .bool false, .bool false, .bool false, .int .u8 0] : Value)) := by kernel_rfl
theorem un91 : Tryz.prog.underlying 91 = some (.pointer 139) := Tryz.underlying91
theorem un121 : Tryz.prog.underlying 121 = some (.slice 58) := Tryz.underlying121
theorem un125 : Tryz.prog.underlying 125 = some (.pointer 5) := Tryz.underlying125
theorem un127 : Tryz.prog.underlying 127 = some (.slice 66) := Tryz.underlying127
theorem on127 : isOne Tryz.prog 127 = true := by kernel_rfl
theorem fo139_0 : fieldOff Tryz.prog 139 0 = some 0 := by kernel_rfl
theorem fo139_1 : fieldOff Tryz.prog 139 1 = some 1 := by kernel_rfl
theorem un149 : Tryz.prog.underlying 149 = some (.array 3 3) := Tryz.underlying149
theorem ag149 : aggB Tryz.prog 149 3 = true := by kernel_rfl
theorem fo151_0 : fieldOff Tryz.prog 151 0 = some 0 := by kernel_rfl
theorem fo151_1 : fieldOff Tryz.prog 151 1 = some 3 := by kernel_rfl
theorem fo151_2 : fieldOff Tryz.prog 151 2 = some 6 := by kernel_rfl
theorem fo151_3 : fieldOff Tryz.prog 151 3 = some 9 := by kernel_rfl
theorem fo153_0 : fieldOff Tryz.prog 153 0 = some 0 := by kernel_rfl
theorem fo153_1 : fieldOff Tryz.prog 153 1 = some 1 := by kernel_rfl
theorem fo153_2 : fieldOff Tryz.prog 153 2 = some 2 := by kernel_rfl
theorem fo153_3 : fieldOff Tryz.prog 153 3 = some 3 := by kernel_rfl
theorem un175 : Tryz.prog.underlying 175 = some (.array 8 66) := Tryz.underlying175
theorem sz175 : (Tryz.prog.info? 175).map (·.size) = some 8 := by kernel_rfl
theorem zr175 : (Tryz.prog.info? 175).map (·.zero) = some (some (.agg #[.int .u64 0, .int .u64 0, .int .u64 0, .int .u64 0, .int .u64 0, .int .u64 0, .int .u64 0, .int .u64 0] : Value)) := by kernel_rfl
theorem un179 : Tryz.prog.underlying 179 = some (.int .u64) := Tryz.underlying179
theorem on179 : isOne Tryz.prog 179 = true := by kernel_rfl
theorem sz179 : (Tryz.prog.info? 179).map (·.size) = some 1 := by kernel_rfl
theorem zr179 : (Tryz.prog.info? 179).map (·.zero) = some (some (.int .u64 0 : Value)) := by kernel_rfl
theorem zb22_30 : (Tryz.prog.info? 30).map (fun i => (i.zero, i.size, i.bytes)) = some (some (.agg #[.int .u8 0, .int .u8 0, .int .u8 0, .int .u8 0, .int .u8 0, .int .u8 0, .int .u8 0, .int .u8 0, .int .u8 0, .int .u8 0, .int .u8 0, .int .u8 0, .int .u8 0, .int .u8 0, .int .u8 0, .int .u8 0, .int .u8 0, .int .u8 0, .int .u8 0, .int .u8 0, .int .u8 0, .int .u8 0, .int .u8 0, .int .u8 0, .int .u8 0, .int .u8 0, .int .u8 0, .int .u8 0, .int .u8 0, .int .u8 0, .int .u8 0, .int .u8 0] : Value), 32, 32) := by kernel_rfl
theorem sl22 : SlT Tryz.prog 22 30 (.agg #[.int .u8 0, .int .u8 0, .int .u8 0, .int .u8 0, .int .u8 0, .int .u8 0, .int .u8 0, .int .u8 0, .int .u8 0, .int .u8 0, .int .u8 0, .int .u8 0, .int .u8 0, .int .u8 0, .int .u8 0, .int .u8 0, .int .u8 0, .int .u8 0, .int .u8 0, .int .u8 0, .int .u8 0, .int .u8 0, .int .u8 0, .int .u8 0, .int .u8 0, .int .u8 0, .int .u8 0, .int .u8 0, .int .u8 0, .int .u8 0, .int .u8 0, .int .u8 0] : Value) 32 32 := SlT.mk' un22 zb22_30 rfl (by decide)
theorem zb58_5 : (Tryz.prog.info? 5).map (fun i => (i.zero, i.size, i.bytes)) = some (some (.int .u8 0 : Value), 1, 1) := by kernel_rfl
theorem sl58 : SlT Tryz.prog 58 5 (.int .u8 0 : Value) 1 1 := SlT.mk' un58 zb58_5 rfl (by decide)
theorem zb75_9 : (Tryz.prog.info? 9).map (fun i => (i.zero, i.size, i.bytes)) = some (some (.string ByteArray.empty : Value), 1, 16) := by kernel_rfl
theorem sl75 : SlT Tryz.prog 75 9 (.string ByteArray.empty : Value) 1 16 := SlT.mk' un75 zb75_9 rfl (by decide)
theorem zb127_66 : (Tryz.prog.info? 66).map (fun i => (i.zero, i.size, i.bytes)) = some (some (.int .u64 0 : Value), 1, 8) := by kernel_rfl
theorem sl127 : SlT Tryz.prog 127 66 (.int .u64 0 : Value) 1 8 := SlT.mk' un127 zb127_66 rfl (by decide)
theorem en6 : ∀ args w, (callFunc 6 args).run Tryz.prog w = .ok (.enter 6 args) w := enters Tryz.func6 (by kernel_rfl) rfl
theorem en7 : ∀ args w, (callFunc 7 args).run Tryz.prog w = .ok (.enter 7 args) w := enters Tryz.func7 (by kernel_rfl) rfl
theorem en8 : ∀ args w, (callFunc 8 args).run Tryz.prog w = .ok (.enter 8 args) w := enters Tryz.func8 (by kernel_rfl) rfl
theorem en9 : ∀ args w, (callFunc 9 args).run Tryz.prog w = .ok (.enter 9 args) w := enters Tryz.func9 (by kernel_rfl) rfl
theorem en10 : ∀ args w, (callFunc 10 args).run Tryz.prog w = .ok (.enter 10 args) w := enters Tryz.func10 (by kernel_rfl) rfl
theorem en11 : ∀ args w, (callFunc 11 args).run Tryz.prog w = .ok (.enter 11 args) w := enters Tryz.func11 (by kernel_rfl) rfl
theorem en12 : ∀ args w, (callFunc 12 args).run Tryz.prog w = .ok (.enter 12 args) w := enters Tryz.func12 (by kernel_rfl) rfl
theorem en13 : ∀ args w, (callFunc 13 args).run Tryz.prog w = .ok (.enter 13 args) w := enters Tryz.func13 (by kernel_rfl) rfl
theorem en14 : ∀ args w, (callFunc 14 args).run Tryz.prog w = .ok (.enter 14 args) w := enters Tryz.func14 (by kernel_rfl) rfl
theorem en15 : ∀ args w, (callFunc 15 args).run Tryz.prog w = .ok (.enter 15 args) w := enters Tryz.func15 (by kernel_rfl) rfl
theorem en16 : ∀ args w, (callFunc 16 args).run Tryz.prog w = .ok (.enter 16 args) w := enters Tryz.func16 (by kernel_rfl) rfl
theorem en17 : ∀ args w, (callFunc 17 args).run Tryz.prog w = .ok (.enter 17 args) w := enters Tryz.func17 (by kernel_rfl) rfl
theorem en18 : ∀ args w, (callFunc 18 args).run Tryz.prog w = .ok (.enter 18 args) w := enters Tryz.func18 (by kernel_rfl) rfl
theorem en19 : ∀ args w, (callFunc 19 args).run Tryz.prog w = .ok (.enter 19 args) w := enters Tryz.func19 (by kernel_rfl) rfl
theorem en20 : ∀ args w, (callFunc 20 args).run Tryz.prog w = .ok (.enter 20 args) w := enters Tryz.func20 (by kernel_rfl) rfl
theorem en21 : ∀ args w, (callFunc 21 args).run Tryz.prog w = .ok (.enter 21 args) w := enters Tryz.func21 (by kernel_rfl) rfl
theorem en22 : ∀ args w, (callFunc 22 args).run Tryz.prog w = .ok (.enter 22 args) w := enters Tryz.func22 (by kernel_rfl) rfl
theorem en23 : ∀ args w, (callFunc 23 args).run Tryz.prog w = .ok (.enter 23 args) w := enters Tryz.func23 (by kernel_rfl) rfl
theorem en24 : ∀ args w, (callFunc 24 args).run Tryz.prog w = .ok (.enter 24 args) w := enters Tryz.func24 (by kernel_rfl) rfl
theorem en25 : ∀ args w, (callFunc 25 args).run Tryz.prog w = .ok (.enter 25 args) w := enters Tryz.func25 (by kernel_rfl) rfl
theorem en26 : ∀ args w, (callFunc 26 args).run Tryz.prog w = .ok (.enter 26 args) w := enters Tryz.func26 (by kernel_rfl) rfl
theorem en27 : ∀ args w, (callFunc 27 args).run Tryz.prog w = .ok (.enter 27 args) w := enters Tryz.func27 (by kernel_rfl) rfl
theorem en28 : ∀ args w, (callFunc 28 args).run Tryz.prog w = .ok (.enter 28 args) w := enters Tryz.func28 (by kernel_rfl) rfl
theorem en29 : ∀ args w, (callFunc 29 args).run Tryz.prog w = .ok (.enter 29 args) w := enters Tryz.func29 (by kernel_rfl) rfl
theorem en30 : ∀ args w, (callFunc 30 args).run Tryz.prog w = .ok (.enter 30 args) w := enters Tryz.func30 (by kernel_rfl) rfl
theorem en31 : ∀ args w, (callFunc 31 args).run Tryz.prog w = .ok (.enter 31 args) w := enters Tryz.func31 (by kernel_rfl) rfl
theorem en32 : ∀ args w, (callFunc 32 args).run Tryz.prog w = .ok (.enter 32 args) w := enters Tryz.func32 (by kernel_rfl) rfl
theorem en33 : ∀ args w, (callFunc 33 args).run Tryz.prog w = .ok (.enter 33 args) w := enters Tryz.func33 (by kernel_rfl) rfl
theorem en34 : ∀ args w, (callFunc 34 args).run Tryz.prog w = .ok (.enter 34 args) w := enters Tryz.func34 (by kernel_rfl) rfl
theorem en35 : ∀ args w, (callFunc 35 args).run Tryz.prog w = .ok (.enter 35 args) w := enters Tryz.func35 (by kernel_rfl) rfl
theorem en36 : ∀ args w, (callFunc 36 args).run Tryz.prog w = .ok (.enter 36 args) w := enters Tryz.func36 (by kernel_rfl) rfl
theorem en37 : ∀ args w, (callFunc 37 args).run Tryz.prog w = .ok (.enter 37 args) w := enters Tryz.func37 (by kernel_rfl) rfl
theorem en39 : ∀ args w, (callFunc 39 args).run Tryz.prog w = .ok (.enter 39 args) w := enters Tryz.func39 (by kernel_rfl) rfl
theorem en40 : ∀ args w, (callFunc 40 args).run Tryz.prog w = .ok (.enter 40 args) w := enters Tryz.func40 (by kernel_rfl) rfl
theorem en41 : ∀ args w, (callFunc 41 args).run Tryz.prog w = .ok (.enter 41 args) w := enters Tryz.func41 (by kernel_rfl) rfl
theorem en43 : ∀ args w, (callFunc 43 args).run Tryz.prog w = .ok (.enter 43 args) w := enters Tryz.func43 (by kernel_rfl) rfl
theorem en47 : ∀ args w, (callFunc 47 args).run Tryz.prog w = .ok (.enter 47 args) w := enters Tryz.func47 (by kernel_rfl) rfl
theorem en58 : ∀ args w, (callFunc 58 args).run Tryz.prog w = .ok (.enter 58 args) w := enters Tryz.func58 (by kernel_rfl) rfl
theorem en59 : ∀ args w, (callFunc 59 args).run Tryz.prog w = .ok (.enter 59 args) w := enters Tryz.func59 (by kernel_rfl) rfl
theorem en60 : ∀ args w, (callFunc 60 args).run Tryz.prog w = .ok (.enter 60 args) w := enters Tryz.func60 (by kernel_rfl) rfl
theorem en61 : ∀ args w, (callFunc 61 args).run Tryz.prog w = .ok (.enter 61 args) w := enters Tryz.func61 (by kernel_rfl) rfl
theorem en62 : ∀ args w, (callFunc 62 args).run Tryz.prog w = .ok (.enter 62 args) w := enters Tryz.func62 (by kernel_rfl) rfl
theorem en63 : ∀ args w, (callFunc 63 args).run Tryz.prog w = .ok (.enter 63 args) w := enters Tryz.func63 (by kernel_rfl) rfl
theorem en64 : ∀ args w, (callFunc 64 args).run Tryz.prog w = .ok (.enter 64 args) w := enters Tryz.func64 (by kernel_rfl) rfl
theorem en65 : ∀ args w, (callFunc 65 args).run Tryz.prog w = .ok (.enter 65 args) w := enters Tryz.func65 (by kernel_rfl) rfl
theorem en66 : ∀ args w, (callFunc 66 args).run Tryz.prog w = .ok (.enter 66 args) w := enters Tryz.func66 (by kernel_rfl) rfl
theorem en67 : ∀ args w, (callFunc 67 args).run Tryz.prog w = .ok (.enter 67 args) w := enters Tryz.func67 (by kernel_rfl) rfl
theorem en68 : ∀ args w, (callFunc 68 args).run Tryz.prog w = .ok (.enter 68 args) w := enters Tryz.func68 (by kernel_rfl) rfl
theorem en69 : ∀ args w, (callFunc 69 args).run Tryz.prog w = .ok (.enter 69 args) w := enters Tryz.func69 (by kernel_rfl) rfl
theorem en70 : ∀ args w, (callFunc 70 args).run Tryz.prog w = .ok (.enter 70 args) w := enters Tryz.func70 (by kernel_rfl) rfl
theorem en71 : ∀ args w, (callFunc 71 args).run Tryz.prog w = .ok (.enter 71 args) w := enters Tryz.func71 (by kernel_rfl) rfl
theorem en72 : ∀ args w, (callFunc 72 args).run Tryz.prog w = .ok (.enter 72 args) w := enters Tryz.func72 (by kernel_rfl) rfl
theorem en73 : ∀ args w, (callFunc 73 args).run Tryz.prog w = .ok (.enter 73 args) w := enters Tryz.func73 (by kernel_rfl) rfl
theorem en77 : ∀ args w, (callFunc 77 args).run Tryz.prog w = .ok (.enter 77 args) w := enters Tryz.func77 (by kernel_rfl) rfl
theorem en78 : ∀ args w, (callFunc 78 args).run Tryz.prog w = .ok (.enter 78 args) w := enters Tryz.func78 (by kernel_rfl) rfl
theorem en83 : ∀ args w, (callFunc 83 args).run Tryz.prog w = .ok (.enter 83 args) w := enters Tryz.func83 (by kernel_rfl) rfl
theorem en84 : ∀ args w, (callFunc 84 args).run Tryz.prog w = .ok (.enter 84 args) w := enters Tryz.func84 (by kernel_rfl) rfl
theorem en85 : ∀ args w, (callFunc 85 args).run Tryz.prog w = .ok (.enter 85 args) w := enters Tryz.func85 (by kernel_rfl) rfl
theorem en86 : ∀ args w, (callFunc 86 args).run Tryz.prog w = .ok (.enter 86 args) w := enters Tryz.func86 (by kernel_rfl) rfl
theorem en87 : ∀ args w, (callFunc 87 args).run Tryz.prog w = .ok (.enter 87 args) w := enters Tryz.func87 (by kernel_rfl) rfl
theorem en88 : ∀ args w, (callFunc 88 args).run Tryz.prog w = .ok (.enter 88 args) w := enters Tryz.func88 (by kernel_rfl) rfl
theorem en90 : ∀ args w, (callFunc 90 args).run Tryz.prog w = .ok (.enter 90 args) w := enters Tryz.func90 (by kernel_rfl) rfl
theorem en95 : ∀ args w, (callFunc 95 args).run Tryz.prog w = .ok (.enter 95 args) w := enters Tryz.func95 (by kernel_rfl) rfl
theorem en97 : ∀ args w, (callFunc 97 args).run Tryz.prog w = .ok (.enter 97 args) w := enters Tryz.func97 (by kernel_rfl) rfl
theorem en98 : ∀ args w, (callFunc 98 args).run Tryz.prog w = .ok (.enter 98 args) w := enters Tryz.func98 (by kernel_rfl) rfl
theorem en99 : ∀ args w, (callFunc 99 args).run Tryz.prog w = .ok (.enter 99 args) w := enters Tryz.func99 (by kernel_rfl) rfl
theorem en100 : ∀ args w, (callFunc 100 args).run Tryz.prog w = .ok (.enter 100 args) w := enters Tryz.func100 (by kernel_rfl) rfl
theorem en101 : ∀ args w, (callFunc 101 args).run Tryz.prog w = .ok (.enter 101 args) w := enters Tryz.func101 (by kernel_rfl) rfl
theorem en102 : ∀ args w, (callFunc 102 args).run Tryz.prog w = .ok (.enter 102 args) w := enters Tryz.func102 (by kernel_rfl) rfl
theorem en103 : ∀ args w, (callFunc 103 args).run Tryz.prog w = .ok (.enter 103 args) w := enters Tryz.func103 (by kernel_rfl) rfl
theorem en104 : ∀ args w, (callFunc 104 args).run Tryz.prog w = .ok (.enter 104 args) w := enters Tryz.func104 (by kernel_rfl) rfl
theorem en108 : ∀ args w, (callFunc 108 args).run Tryz.prog w = .ok (.enter 108 args) w := enters Tryz.func108 (by kernel_rfl) rfl
theorem en109 : ∀ args w, (callFunc 109 args).run Tryz.prog w = .ok (.enter 109 args) w := enters Tryz.func109 (by kernel_rfl) rfl
theorem en110 : ∀ args w, (callFunc 110 args).run Tryz.prog w = .ok (.enter 110 args) w := enters Tryz.func110 (by kernel_rfl) rfl
theorem en116 : ∀ args w, (callFunc 116 args).run Tryz.prog w = .ok (.enter 116 args) w := enters Tryz.func116 (by kernel_rfl) rfl
theorem en117 : ∀ args w, (callFunc 117 args).run Tryz.prog w = .ok (.enter 117 args) w := enters Tryz.func117 (by kernel_rfl) rfl
theorem en119 : ∀ args w, (callFunc 119 args).run Tryz.prog w = .ok (.enter 119 args) w := enters Tryz.func119 (by kernel_rfl) rfl
theorem en120 : ∀ args w, (callFunc 120 args).run Tryz.prog w = .ok (.enter 120 args) w := enters Tryz.func120 (by kernel_rfl) rfl
theorem en121 : ∀ args w, (callFunc 121 args).run Tryz.prog w = .ok (.enter 121 args) w := enters Tryz.func121 (by kernel_rfl) rfl
theorem en126 : ∀ args w, (callFunc 126 args).run Tryz.prog w = .ok (.enter 126 args) w := enters Tryz.func126 (by kernel_rfl) rfl
end Go.Proofs.YtfobhdmhjjafcaaGreatDoorRR
