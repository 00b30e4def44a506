/- Facts on the types and functions of the program, each closed. -/
import Derived.Test.YtbgimajbehodnaaGreatDoorProg
import Derived.Test.YtbgimajbehodnaaGreatDoorLibW
namespace Go.Proofs.YtbgimajbehodnaaGreatDoor
open Go Go.RowKit
theorem mixed : Tryz.prog.follows .mixedOrders = true := by kernel_rfl
theorem un3 : Tryz.prog.underlying 3 = some (.int .i64) := Tryz.underlying3
theorem on3 : isOne Tryz.prog 3 = true := by kernel_rfl
theorem sz3 : (Tryz.prog.info? 3).map (·.size) = some 1 := by kernel_rfl
theorem zr3 : (Tryz.prog.info? 3).map (·.zero) = some (some (.int .i64 0 : Value)) := by kernel_rfl
theorem on4 : isOne Tryz.prog 4 = true := by kernel_rfl
theorem sz4 : (Tryz.prog.info? 4).map (·.size) = some 1 := by kernel_rfl
theorem zr4 : (Tryz.prog.info? 4).map (·.zero) = some (some (.bool false : Value)) := by kernel_rfl
theorem un5 : Tryz.prog.underlying 5 = some (.int .u8) := Tryz.underlying5
theorem on5 : isOne Tryz.prog 5 = true := by kernel_rfl
theorem sz5 : (Tryz.prog.info? 5).map (·.size) = some 1 := by kernel_rfl
theorem zs5 : (Tryz.prog.info? 5).map (fun i => (i.zero, i.size)) = some (some (.int .u8 0 : Value), 1) := by kernel_rfl
theorem un9 : Tryz.prog.underlying 9 = some (.string) := Tryz.underlying9
theorem on9 : isOne Tryz.prog 9 = true := by kernel_rfl
theorem sz9 : (Tryz.prog.info? 9).map (·.size) = some 1 := by kernel_rfl
theorem un33 : Tryz.prog.underlying 33 = some (.slice 45) := Tryz.underlying33
theorem on33 : isOne Tryz.prog 33 = true := by kernel_rfl
theorem sz33 : (Tryz.prog.info? 33).map (·.size) = some 1 := by kernel_rfl
theorem zr33 : (Tryz.prog.info? 33).map (·.zero) = some (some (.slice none 0 0 : Value)) := by kernel_rfl
theorem zs33 : (Tryz.prog.info? 33).map (fun i => (i.zero, i.size)) = some (some (.slice none 0 0 : Value), 1) := by kernel_rfl
theorem un34 : Tryz.prog.underlying 34 = some (.int .u64) := Tryz.underlying34
theorem on34 : isOne Tryz.prog 34 = true := by kernel_rfl
theorem sz34 : (Tryz.prog.info? 34).map (·.size) = some 1 := by kernel_rfl
theorem zs34 : (Tryz.prog.info? 34).map (fun i => (i.zero, i.size)) = some (some (.int .u64 0 : Value), 1) := by kernel_rfl
theorem un35 : Tryz.prog.underlying 35 = some (.array 8 34) := Tryz.underlying35
theorem ag35 : aggB Tryz.prog 35 8 = true := by kernel_rfl
theorem ag37 : aggB Tryz.prog 37 15 = true := by kernel_rfl
theorem sz37 : (Tryz.prog.info? 37).map (·.size) = some 15 := by kernel_rfl
theorem fo37_0 : fieldOff Tryz.prog 37 0 = some 0 := by kernel_rfl
theorem fo37_1 : fieldOff Tryz.prog 37 1 = some 1 := by kernel_rfl
theorem fo37_2 : fieldOff Tryz.prog 37 2 = some 2 := by kernel_rfl
theorem fo37_3 : fieldOff Tryz.prog 37 3 = some 3 := by kernel_rfl
theorem fo37_4 : fieldOff Tryz.prog 37 4 = some 11 := by kernel_rfl
theorem fo37_5 : fieldOff Tryz.prog 37 5 = some 12 := by kernel_rfl
theorem fo37_6 : fieldOff Tryz.prog 37 6 = some 13 := by kernel_rfl
theorem fo37_7 : fieldOff Tryz.prog 37 7 = some 14 := by kernel_rfl
theorem zr37 : (Tryz.prog.info? 37).map (·.zero) = some (some (.agg #[.int .u64 0, .int .u64 0, .int .u64 0, .int .u64 0, .int .u64 0, .int .u64 0, .int .u64 0, .int .u64 0, .int .u64 0, .int .u64 0, .int .u64 0, .int .u64 0, .int .u64 0, .int .u64 0, .int .u64 0] : Value)) := by kernel_rfl
theorem zs37 : (Tryz.prog.info? 37).map (fun i => (i.zero, i.size)) = some (some (.agg #[.int .u64 0, .int .u64 0, .int .u64 0, .int .u64 0, .int .u64 0, .int .u64 0, .int .u64 0, .int .u64 0, .int .u64 0, .int .u64 0, .int .u64 0, .int .u64 0, .int .u64 0, .int .u64 0, .int .u64 0] : Value), 15) := by kernel_rfl
theorem on40 : isOne Tryz.prog 40 = true := by kernel_rfl
theorem ag45 : aggB Tryz.prog 45 22 = true := by kernel_rfl
theorem sz45 : (Tryz.prog.info? 45).map (·.size) = some 22 := by kernel_rfl
theorem fo45_1 : fieldOff Tryz.prog 45 1 = some 16 := by kernel_rfl
theorem fo45_2 : fieldOff Tryz.prog 45 2 = some 17 := by kernel_rfl
theorem fo45_3 : fieldOff Tryz.prog 45 3 = some 18 := by kernel_rfl
theorem fo45_4 : fieldOff Tryz.prog 45 4 = some 19 := by kernel_rfl
theorem fo45_5 : fieldOff Tryz.prog 45 5 = some 20 := by kernel_rfl
theorem fo45_6 : fieldOff Tryz.prog 45 6 = some 21 := by kernel_rfl
theorem zr45 : (Tryz.prog.info? 45).map (·.zero) = some (some (.agg #[.int .u8 0, .int .u8 0, .int .u8 0, .int .u8 0, .int .u8 0, .int .u8 0, .int .u8 0, .int .u8 0, .int .u8 0, .int .u8 0, .int .u8 0, .int .u8 0, .int .u8 0, .int .u8 0, .int .u8 0, .int .u8 0, .int .u8 0, .bool false, .int .u8 0, .int .u64 0, .int .u64 0, .int .u64 0] : Value)) := by kernel_rfl
theorem zs45 : (Tryz.prog.info? 45).map (fun i => (i.zero, i.size)) = some (some (.agg #[.int .u8 0, .int .u8 0, .int .u8 0, .int .u8 0, .int .u8 0, .int .u8 0, .int .u8 0, .int .u8 0, .int .u8 0, .int .u8 0, .int .u8 0, .int .u8 0, .int .u8 0, .int .u8 0, .int .u8 0, .int .u8 0, .int .u8 0, .bool false, .int .u8 0, .int .u64 0, .int .u64 0, .int .u64 0] : Value), 22) := by kernel_rfl
theorem un48 : Tryz.prog.underlying 48 = some (.slice 34) := Tryz.underlying48
theorem on48 : isOne Tryz.prog 48 = true := by kernel_rfl
theorem sz48 : (Tryz.prog.info? 48).map (·.size) = some 1 := by kernel_rfl
theorem zr48 : (Tryz.prog.info? 48).map (·.zero) = some (some (.slice none 0 0 : Value)) := by kernel_rfl
theorem un49 : Tryz.prog.underlying 49 = some (.slice 37) := Tryz.underlying49
theorem on49 : isOne Tryz.prog 49 = true := by kernel_rfl
theorem sz49 : (Tryz.prog.info? 49).map (·.size) = some 1 := by kernel_rfl
theorem zr49 : (Tryz.prog.info? 49).map (·.zero) = some (some (.slice none 0 0 : Value)) := by kernel_rfl
theorem on55 : isOne Tryz.prog 55 = true := by kernel_rfl
theorem un57 : Tryz.prog.underlying 57 = some (.slice 70) := Tryz.underlying57
theorem on57 : isOne Tryz.prog 57 = true := by kernel_rfl
theorem sz57 : (Tryz.prog.info? 57).map (·.size) = some 1 := by kernel_rfl
theorem zr57 : (Tryz.prog.info? 57).map (·.zero) = some (some (.slice none 0 0 : Value)) := by kernel_rfl
theorem on58 : isOne Tryz.prog 58 = true := by kernel_rfl
theorem sz58 : (Tryz.prog.info? 58).map (·.size) = some 1 := by kernel_rfl
theorem zr58 : (Tryz.prog.info? 58).map (·.zero) = some (some (.int .i64 0 : Value)) := by kernel_rfl
theorem un62 : Tryz.prog.underlying 62 = some (.slice 5) := Tryz.underlying62
theorem on62 : isOne Tryz.prog 62 = true := by kernel_rfl
theorem sz62 : (Tryz.prog.info? 62).map (·.size) = some 1 := by kernel_rfl
theorem on68 : isOne Tryz.prog 68 = true := by kernel_rfl
theorem ag70 : aggB Tryz.prog 70 7 = true := by kernel_rfl
theorem sz70 : (Tryz.prog.info? 70).map (·.size) = some 7 := by kernel_rfl
theorem fo70_0 : fieldOff Tryz.prog 70 0 = some 0 := by kernel_rfl
theorem fo70_1 : fieldOff Tryz.prog 70 1 = some 1 := by kernel_rfl
theorem fo70_2 : fieldOff Tryz.prog 70 2 = some 2 := by kernel_rfl
theorem fo70_3 : fieldOff Tryz.prog 70 3 = some 3 := by kernel_rfl
theorem fo70_4 : fieldOff Tryz.prog 70 4 = some 4 := by kernel_rfl
theorem fo70_5 : fieldOff Tryz.prog 70 5 = some 5 := by kernel_rfl
theorem fo70_6 : fieldOff Tryz.prog 70 6 = some 6 := by kernel_rfl
theorem zr70 : (Tryz.prog.info? 70).map (·.zero) = some (some (.agg #[.int .u8 0, .int .u64 0, .int .u64 0, .int .u64 0, .int .u64 0, .int .u64 0, .int .u64 0] : Value)) := by kernel_rfl
theorem zs70 : (Tryz.prog.info? 70).map (fun i => (i.zero, i.size)) = some (some (.agg #[.int .u8 0, .int .u64 0, .int .u64 0, .int .u64 0, .int .u64 0, .int .u64 0, .int .u64 0] : Value), 7) := by kernel_rfl
theorem on79 : isOne Tryz.prog 79 = true := by kernel_rfl
theorem un85 : Tryz.prog.underlying 85 = some (.slice 9) := Tryz.underlying85
theorem un92 : Tryz.prog.underlying 92 = some (.slice 3) := Tryz.underlying92
theorem on92 : isOne Tryz.prog 92 = true := by kernel_rfl
theorem sz92 : (Tryz.prog.info? 92).map (·.size) = some 1 := by kernel_rfl
theorem zr92 : (Tryz.prog.info? 92).map (·.zero) = some (some (.slice none 0 0 : Value)) := by kernel_rfl
theorem un105 : Tryz.prog.underlying 105 = some (.slice 33) := Tryz.underlying105
theorem un108 : Tryz.prog.underlying 108 = some (.map 34 37) := Tryz.underlying108
theorem on108 : isOne Tryz.prog 108 = true := by kernel_rfl
theorem sz108 : (Tryz.prog.info? 108).map (·.size) = some 1 := by kernel_rfl
theorem zr108 : (Tryz.prog.info? 108).map (·.zero) = some (some (.map none : Value)) := by kernel_rfl
theorem un121 : Tryz.prog.underlying 121 = some (.pointer 123) := Tryz.underlying121
theorem on121 : isOne Tryz.prog 121 = true := by kernel_rfl
theorem sz121 : (Tryz.prog.info? 121).map (·.size) = some 1 := by kernel_rfl
theorem sz123 : (Tryz.prog.info? 123).map (·.size) = some 2 := by kernel_rfl
theorem fo123_0 : fieldOff Tryz.prog 123 0 = some 0 := by kernel_rfl
theorem fo123_1 : fieldOff Tryz.prog 123 1 = some 1 := by kernel_rfl
theorem zr123 : (Tryz.prog.info? 123).map (·.zero) = some (some (.agg #[.pointer none, .slice none 0 0] : Value)) := by kernel_rfl
theorem on130 : isOne Tryz.prog 130 = true := by kernel_rfl
theorem sz130 : (Tryz.prog.info? 130).map (·.size) = some 1 := by kernel_rfl
theorem un131 : Tryz.prog.underlying 131 = some (.array 6 130) := Tryz.underlying131
theorem ag131 : aggB Tryz.prog 131 6 = true := by kernel_rfl
theorem sz131 : (Tryz.prog.info? 131).map (·.size) = some 6 := by kernel_rfl
theorem zr131 : (Tryz.prog.info? 131).map (·.zero) = some (some (.agg #[.pointer none, .pointer none, .pointer none, .pointer none, .pointer none, .pointer none] : Value)) := by kernel_rfl
theorem un136 : Tryz.prog.underlying 136 = some (.map 5 37) := Tryz.underlying136
theorem on136 : isOne Tryz.prog 136 = true := by kernel_rfl
theorem sz136 : (Tryz.prog.info? 136).map (·.size) = some 1 := by kernel_rfl
theorem zr136 : (Tryz.prog.info? 136).map (·.zero) = some (some (.map none : Value)) := by kernel_rfl
theorem on148 : isOne Tryz.prog 148 = true := by kernel_rfl
theorem on155 : isOne Tryz.prog 155 = true := by kernel_rfl
theorem un169 : Tryz.prog.underlying 169 = some (.pointer 5) := Tryz.underlying169
theorem un180 : Tryz.prog.underlying 180 = some (.int .u64) := Tryz.underlying180
theorem un187 : Tryz.prog.underlying 187 = some (.array 24 5) := Tryz.underlying187
theorem zr187 : (Tryz.prog.info? 187).map (·.zero) = some (some (.agg #[.int .u8 0, .int .u8 0, .int .u8 0, .int .u8 0, .int .u8 0, .int .u8 0, .int .u8 0, .int .u8 0, .int .u8 0, .int .u8 0, .int .u8 0, .int .u8 0, .int .u8 0, .int .u8 0, .int .u8 0, .int .u8 0, .int .u8 0, .int .u8 0, .int .u8 0, .int .u8 0, .int .u8 0, .int .u8 0, .int .u8 0, .int .u8 0] : Value)) := by kernel_rfl
theorem un226 : Tryz.prog.underlying 226 = some (.int .u64) := Tryz.underlying226
theorem on226 : isOne Tryz.prog 226 = true := by kernel_rfl
theorem sz226 : (Tryz.prog.info? 226).map (·.size) = some 1 := by kernel_rfl
theorem zr226 : (Tryz.prog.info? 226).map (·.zero) = some (some (.int .u64 0 : Value)) := by kernel_rfl
theorem zb33_45 : (Tryz.prog.info? 45).map (fun i => (i.zero, i.size, i.bytes)) = some (some (.agg #[.int .u8 0, .int .u8 0, .int .u8 0, .int .u8 0, .int .u8 0, .int .u8 0, .int .u8 0, .int .u8 0, .int .u8 0, .int .u8 0, .int .u8 0, .int .u8 0, .int .u8 0, .int .u8 0, .int .u8 0, .int .u8 0, .int .u8 0, .bool false, .int .u8 0, .int .u64 0, .int .u64 0, .int .u64 0] : Value), 22, 48) := by kernel_rfl
theorem sl33 : SlT Tryz.prog 33 45 (.agg #[.int .u8 0, .int .u8 0, .int .u8 0, .int .u8 0, .int .u8 0, .int .u8 0, .int .u8 0, .int .u8 0, .int .u8 0, .int .u8 0, .int .u8 0, .int .u8 0, .int .u8 0, .int .u8 0, .int .u8 0, .int .u8 0, .int .u8 0, .bool false, .int .u8 0, .int .u64 0, .int .u64 0, .int .u64 0] : Value) 22 48 := SlT.mk' un33 zb33_45 rfl (by decide)
theorem zb48_34 : (Tryz.prog.info? 34).map (fun i => (i.zero, i.size, i.bytes)) = some (some (.int .u64 0 : Value), 1, 8) := by kernel_rfl
theorem sl48 : SlT Tryz.prog 48 34 (.int .u64 0 : Value) 1 8 := SlT.mk' un48 zb48_34 rfl (by decide)
theorem zb49_37 : (Tryz.prog.info? 37).map (fun i => (i.zero, i.size, i.bytes)) = some (some (.agg #[.int .u64 0, .int .u64 0, .int .u64 0, .int .u64 0, .int .u64 0, .int .u64 0, .int .u64 0, .int .u64 0, .int .u64 0, .int .u64 0, .int .u64 0, .int .u64 0, .int .u64 0, .int .u64 0, .int .u64 0] : Value), 15, 120) := by kernel_rfl
theorem sl49 : SlT Tryz.prog 49 37 (.agg #[.int .u64 0, .int .u64 0, .int .u64 0, .int .u64 0, .int .u64 0, .int .u64 0, .int .u64 0, .int .u64 0, .int .u64 0, .int .u64 0, .int .u64 0, .int .u64 0, .int .u64 0, .int .u64 0, .int .u64 0] : Value) 15 120 := SlT.mk' un49 zb49_37 rfl (by decide)
theorem zb57_70 : (Tryz.prog.info? 70).map (fun i => (i.zero, i.size, i.bytes)) = some (some (.agg #[.int .u8 0, .int .u64 0, .int .u64 0, .int .u64 0, .int .u64 0, .int .u64 0, .int .u64 0] : Value), 7, 56) := by kernel_rfl
theorem sl57 : SlT Tryz.prog 57 70 (.agg #[.int .u8 0, .int .u64 0, .int .u64 0, .int .u64 0, .int .u64 0, .int .u64 0, .int .u64 0] : Value) 7 56 := SlT.mk' un57 zb57_70 rfl (by decide)
theorem zb62_5 : (Tryz.prog.info? 5).map (fun i => (i.zero, i.size, i.bytes)) = some (some (.int .u8 0 : Value), 1, 1) := by kernel_rfl
theorem sl62 : SlT Tryz.prog 62 5 (.int .u8 0 : Value) 1 1 := SlT.mk' un62 zb62_5 rfl (by decide)
theorem en8 : ∀ args w, (callFunc 8 args).run Tryz.prog w = .ok (.enter 8 args) w := enters Tryz.func8 (by kernel_rfl) rfl
theorem en13 : ∀ args w, (callFunc 13 args).run Tryz.prog w = .ok (.enter 13 args) w := enters Tryz.func13 (by kernel_rfl) rfl
theorem en14 : ∀ args w, (callFunc 14 args).run Tryz.prog w = .ok (.enter 14 args) w := enters Tryz.func14 (by kernel_rfl) rfl
theorem en15 : ∀ args w, (callFunc 15 args).run Tryz.prog w = .ok (.enter 15 args) w := enters Tryz.func15 (by kernel_rfl) rfl
theorem en16 : ∀ args w, (callFunc 16 args).run Tryz.prog w = .ok (.enter 16 args) w := enters Tryz.func16 (by kernel_rfl) rfl
theorem en17 : ∀ args w, (callFunc 17 args).run Tryz.prog w = .ok (.enter 17 args) w := enters Tryz.func17 (by kernel_rfl) rfl
theorem en18 : ∀ args w, (callFunc 18 args).run Tryz.prog w = .ok (.enter 18 args) w := enters Tryz.func18 (by kernel_rfl) rfl
theorem en19 : ∀ args w, (callFunc 19 args).run Tryz.prog w = .ok (.enter 19 args) w := enters Tryz.func19 (by kernel_rfl) rfl
theorem en20 : ∀ args w, (callFunc 20 args).run Tryz.prog w = .ok (.enter 20 args) w := enters Tryz.func20 (by kernel_rfl) rfl
theorem en21 : ∀ args w, (callFunc 21 args).run Tryz.prog w = .ok (.enter 21 args) w := enters Tryz.func21 (by kernel_rfl) rfl
theorem en23 : ∀ args w, (callFunc 23 args).run Tryz.prog w = .ok (.enter 23 args) w := enters Tryz.func23 (by kernel_rfl) rfl
theorem en28 : ∀ args w, (callFunc 28 args).run Tryz.prog w = .ok (.enter 28 args) w := enters Tryz.func28 (by kernel_rfl) rfl
theorem en30 : ∀ args w, (callFunc 30 args).run Tryz.prog w = .ok (.enter 30 args) w := enters Tryz.func30 (by kernel_rfl) rfl
theorem en31 : ∀ args w, (callFunc 31 args).run Tryz.prog w = .ok (.enter 31 args) w := enters Tryz.func31 (by kernel_rfl) rfl
theorem en36 : ∀ args w, (callFunc 36 args).run Tryz.prog w = .ok (.enter 36 args) w := enters Tryz.func36 (by kernel_rfl) rfl
theorem en39 : ∀ args w, (callFunc 39 args).run Tryz.prog w = .ok (.enter 39 args) w := enters Tryz.func39 (by kernel_rfl) rfl
theorem en40 : ∀ args w, (callFunc 40 args).run Tryz.prog w = .ok (.enter 40 args) w := enters Tryz.func40 (by kernel_rfl) rfl
theorem en41 : ∀ args w, (callFunc 41 args).run Tryz.prog w = .ok (.enter 41 args) w := enters Tryz.func41 (by kernel_rfl) rfl
theorem en42 : ∀ args w, (callFunc 42 args).run Tryz.prog w = .ok (.enter 42 args) w := enters Tryz.func42 (by kernel_rfl) rfl
theorem en46 : ∀ args w, (callFunc 46 args).run Tryz.prog w = .ok (.enter 46 args) w := enters Tryz.func46 (by kernel_rfl) rfl
theorem en47 : ∀ args w, (callFunc 47 args).run Tryz.prog w = .ok (.enter 47 args) w := enters Tryz.func47 (by kernel_rfl) rfl
theorem en48 : ∀ args w, (callFunc 48 args).run Tryz.prog w = .ok (.enter 48 args) w := enters Tryz.func48 (by kernel_rfl) rfl
theorem en49 : ∀ args w, (callFunc 49 args).run Tryz.prog w = .ok (.enter 49 args) w := enters Tryz.func49 (by kernel_rfl) rfl
theorem en50 : ∀ args w, (callFunc 50 args).run Tryz.prog w = .ok (.enter 50 args) w := enters Tryz.func50 (by kernel_rfl) rfl
theorem en51 : ∀ args w, (callFunc 51 args).run Tryz.prog w = .ok (.enter 51 args) w := enters Tryz.func51 (by kernel_rfl) rfl
theorem en52 : ∀ args w, (callFunc 52 args).run Tryz.prog w = .ok (.enter 52 args) w := enters Tryz.func52 (by kernel_rfl) rfl
theorem en53 : ∀ args w, (callFunc 53 args).run Tryz.prog w = .ok (.enter 53 args) w := enters Tryz.func53 (by kernel_rfl) rfl
theorem en54 : ∀ args w, (callFunc 54 args).run Tryz.prog w = .ok (.enter 54 args) w := enters Tryz.func54 (by kernel_rfl) rfl
theorem en55 : ∀ args w, (callFunc 55 args).run Tryz.prog w = .ok (.enter 55 args) w := enters Tryz.func55 (by kernel_rfl) rfl
theorem en56 : ∀ args w, (callFunc 56 args).run Tryz.prog w = .ok (.enter 56 args) w := enters Tryz.func56 (by kernel_rfl) rfl
theorem en57 : ∀ args w, (callFunc 57 args).run Tryz.prog w = .ok (.enter 57 args) w := enters Tryz.func57 (by kernel_rfl) rfl
theorem en58 : ∀ args w, (callFunc 58 args).run Tryz.prog w = .ok (.enter 58 args) w := enters Tryz.func58 (by kernel_rfl) rfl
theorem en59 : ∀ args w, (callFunc 59 args).run Tryz.prog w = .ok (.enter 59 args) w := enters Tryz.func59 (by kernel_rfl) rfl
theorem en60 : ∀ args w, (callFunc 60 args).run Tryz.prog w = .ok (.enter 60 args) w := enters Tryz.func60 (by kernel_rfl) rfl
theorem en61 : ∀ args w, (callFunc 61 args).run Tryz.prog w = .ok (.enter 61 args) w := enters Tryz.func61 (by kernel_rfl) rfl
theorem en62 : ∀ args w, (callFunc 62 args).run Tryz.prog w = .ok (.enter 62 args) w := enters Tryz.func62 (by kernel_rfl) rfl
theorem en63 : ∀ args w, (callFunc 63 args).run Tryz.prog w = .ok (.enter 63 args) w := enters Tryz.func63 (by kernel_rfl) rfl
theorem en64 : ∀ args w, (callFunc 64 args).run Tryz.prog w = .ok (.enter 64 args) w := enters Tryz.func64 (by kernel_rfl) rfl
theorem en65 : ∀ args w, (callFunc 65 args).run Tryz.prog w = .ok (.enter 65 args) w := enters Tryz.func65 (by kernel_rfl) rfl
theorem en66 : ∀ args w, (callFunc 66 args).run Tryz.prog w = .ok (.enter 66 args) w := enters Tryz.func66 (by kernel_rfl) rfl
theorem en67 : ∀ args w, (callFunc 67 args).run Tryz.prog w = .ok (.enter 67 args) w := enters Tryz.func67 (by kernel_rfl) rfl
theorem en71 : ∀ args w, (callFunc 71 args).run Tryz.prog w = .ok (.enter 71 args) w := enters Tryz.func71 (by kernel_rfl) rfl
theorem en72 : ∀ args w, (callFunc 72 args).run Tryz.prog w = .ok (.enter 72 args) w := enters Tryz.func72 (by kernel_rfl) rfl
theorem en73 : ∀ args w, (callFunc 73 args).run Tryz.prog w = .ok (.enter 73 args) w := enters Tryz.func73 (by kernel_rfl) rfl
theorem en78 : ∀ args w, (callFunc 78 args).run Tryz.prog w = .ok (.enter 78 args) w := enters Tryz.func78 (by kernel_rfl) rfl
theorem en86 : ∀ args w, (callFunc 86 args).run Tryz.prog w = .ok (.enter 86 args) w := enters Tryz.func86 (by kernel_rfl) rfl
theorem en88 : ∀ args w, (callFunc 88 args).run Tryz.prog w = .ok (.enter 88 args) w := enters Tryz.func88 (by kernel_rfl) rfl
theorem en89 : ∀ args w, (callFunc 89 args).run Tryz.prog w = .ok (.enter 89 args) w := enters Tryz.func89 (by kernel_rfl) rfl
theorem en90 : ∀ args w, (callFunc 90 args).run Tryz.prog w = .ok (.enter 90 args) w := enters Tryz.func90 (by kernel_rfl) rfl
theorem en93 : ∀ args w, (callFunc 93 args).run Tryz.prog w = .ok (.enter 93 args) w := enters Tryz.func93 (by kernel_rfl) rfl
theorem en94 : ∀ args w, (callFunc 94 args).run Tryz.prog w = .ok (.enter 94 args) w := enters Tryz.func94 (by kernel_rfl) rfl
theorem en95 : ∀ args w, (callFunc 95 args).run Tryz.prog w = .ok (.enter 95 args) w := enters Tryz.func95 (by kernel_rfl) rfl
theorem en96 : ∀ args w, (callFunc 96 args).run Tryz.prog w = .ok (.enter 96 args) w := enters Tryz.func96 (by kernel_rfl) rfl
theorem en97 : ∀ args w, (callFunc 97 args).run Tryz.prog w = .ok (.enter 97 args) w := enters Tryz.func97 (by kernel_rfl) rfl
theorem en100 : ∀ args w, (callFunc 100 args).run Tryz.prog w = .ok (.enter 100 args) w := enters Tryz.func100 (by kernel_rfl) rfl
theorem en101 : ∀ args w, (callFunc 101 args).run Tryz.prog w = .ok (.enter 101 args) w := enters Tryz.func101 (by kernel_rfl) rfl
theorem en102 : ∀ args w, (callFunc 102 args).run Tryz.prog w = .ok (.enter 102 args) w := enters Tryz.func102 (by kernel_rfl) rfl
theorem en112 : ∀ args w, (callFunc 112 args).run Tryz.prog w = .ok (.enter 112 args) w := enters Tryz.func112 (by kernel_rfl) rfl
theorem en113 : ∀ args w, (callFunc 113 args).run Tryz.prog w = .ok (.enter 113 args) w := enters Tryz.func113 (by kernel_rfl) rfl
theorem en114 : ∀ args w, (callFunc 114 args).run Tryz.prog w = .ok (.enter 114 args) w := enters Tryz.func114 (by kernel_rfl) rfl
theorem en118 : ∀ args w, (callFunc 118 args).run Tryz.prog w = .ok (.enter 118 args) w := enters Tryz.func118 (by kernel_rfl) rfl
theorem en125 : ∀ args w, (callFunc 125 args).run Tryz.prog w = .ok (.enter 125 args) w := enters Tryz.func125 (by kernel_rfl) rfl
theorem en126 : ∀ args w, (callFunc 126 args).run Tryz.prog w = .ok (.enter 126 args) w := enters Tryz.func126 (by kernel_rfl) rfl
theorem en132 : ∀ args w, (callFunc 132 args).run Tryz.prog w = .ok (.enter 132 args) w := enters Tryz.func132 (by kernel_rfl) rfl
theorem en133 : ∀ args w, (callFunc 133 args).run Tryz.prog w = .ok (.enter 133 args) w := enters Tryz.func133 (by kernel_rfl) rfl
theorem en134 : ∀ args w, (callFunc 134 args).run Tryz.prog w = .ok (.enter 134 args) w := enters Tryz.func134 (by kernel_rfl) rfl
theorem en135 : ∀ args w, (callFunc 135 args).run Tryz.prog w = .ok (.enter 135 args) w := enters Tryz.func135 (by kernel_rfl) rfl
theorem en136 : ∀ args w, (callFunc 136 args).run Tryz.prog w = .ok (.enter 136 args) w := enters Tryz.func136 (by kernel_rfl) rfl
theorem en137 : ∀ args w, (callFunc 137 args).run Tryz.prog w = .ok (.enter 137 args) w := enters Tryz.func137 (by kernel_rfl) rfl
theorem en138 : ∀ args w, (callFunc 138 args).run Tryz.prog w = .ok (.enter 138 args) w := enters Tryz.func138 (by kernel_rfl) rfl
theorem en139 : ∀ args w, (callFunc 139 args).run Tryz.prog w = .ok (.enter 139 args) w := enters Tryz.func139 (by kernel_rfl) rfl
theorem en140 : ∀ args w, (callFunc 140 args).run Tryz.prog w = .ok (.enter 140 args) w := enters Tryz.func140 (by kernel_rfl) rfl
theorem en153 : ∀ args w, (callFunc 153 args).run Tryz.prog w = .ok (.enter 153 args) w := enters Tryz.func153 (by kernel_rfl) rfl
theorem en159 : ∀ args w, (callFunc 159 args).run Tryz.prog w = .ok (.enter 159 args) w := enters Tryz.func159 (by kernel_rfl) rfl
theorem en173 : ∀ args w, (callFunc 173 args).run Tryz.prog w = .ok (.enter 173 args) w := enters Tryz.func173 (by kernel_rfl) rfl
theorem en174 : ∀ args w, (callFunc 174 args).run Tryz.prog w = .ok (.enter 174 args) w := enters Tryz.func174 (by kernel_rfl) rfl
theorem en176 : ∀ args w, (callFunc 176 args).run Tryz.prog w = .ok (.enter 176 args) w := enters Tryz.func176 (by kernel_rfl) rfl
theorem en177 : ∀ args w, (callFunc 177 args).run Tryz.prog w = .ok (.enter 177 args) w := enters Tryz.func177 (by kernel_rfl) rfl
theorem en178 : ∀ args w, (callFunc 178 args).run Tryz.prog w = .ok (.enter 178 args) w := enters Tryz.func178 (by kernel_rfl) rfl
theorem en194 : ∀ args w, (callFunc 194 args).run Tryz.prog w = .ok (.enter 194 args) w := enters Tryz.func194 (by kernel_rfl) rfl
theorem en199 : ∀ args w, (callFunc 199 args).run Tryz.prog w = .ok (.enter 199 args) w := enters Tryz.func199 (by kernel_rfl) rfl
end Go.Proofs.YtbgimajbehodnaaGreatDoor
