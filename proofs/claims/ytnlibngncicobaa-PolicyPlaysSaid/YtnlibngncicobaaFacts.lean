/- Facts on the types and functions of the program, each closed. -/
import Derived.Test.YtnlibngncicobaaProg
import Derived.Test.YtnlibngncicobaaLibW
namespace Go.Proofs.Ytnlibngncicobaa
open Go Go.RowKit
theorem mixed : Try.prog.follows .mixedOrders = true := by kernel_rfl
theorem un3 : Try.prog.underlying 3 = some (.int .i64) := Try.underlying3
theorem on3 : isOne Try.prog 3 = true := by kernel_rfl
theorem sz3 : (Try.prog.info? 3).map (·.size) = some 1 := by kernel_rfl
theorem zr3 : (Try.prog.info? 3).map (·.zero) = some (some (.int .i64 0 : Value)) := by kernel_rfl
theorem zs3 : (Try.prog.info? 3).map (fun i => (i.zero, i.size)) = some (some (.int .i64 0 : Value), 1) := by kernel_rfl
theorem on4 : isOne Try.prog 4 = true := by kernel_rfl
theorem sz4 : (Try.prog.info? 4).map (·.size) = some 1 := by kernel_rfl
theorem zr4 : (Try.prog.info? 4).map (·.zero) = some (some (.bool false : Value)) := by kernel_rfl
theorem zs4 : (Try.prog.info? 4).map (fun i => (i.zero, i.size)) = some (some (.bool false : Value), 1) := by kernel_rfl
theorem un5 : Try.prog.underlying 5 = some (.int .u8) := Try.underlying5
theorem on5 : isOne Try.prog 5 = true := by kernel_rfl
theorem sz5 : (Try.prog.info? 5).map (·.size) = some 1 := by kernel_rfl
theorem zr5 : (Try.prog.info? 5).map (·.zero) = some (some (.int .u8 0 : Value)) := by kernel_rfl
theorem zs5 : (Try.prog.info? 5).map (fun i => (i.zero, i.size)) = some (some (.int .u8 0 : Value), 1) := by kernel_rfl
theorem un9 : Try.prog.underlying 9 = some (.string) := Try.underlying9
theorem un22 : Try.prog.underlying 22 = some (.int .u16) := Try.underlying22
theorem on22 : isOne Try.prog 22 = true := by kernel_rfl
theorem sz22 : (Try.prog.info? 22).map (·.size) = some 1 := by kernel_rfl
theorem zr22 : (Try.prog.info? 22).map (·.zero) = some (some (.int .u16 0 : Value)) := by kernel_rfl
theorem zs22 : (Try.prog.info? 22).map (fun i => (i.zero, i.size)) = some (some (.int .u16 0 : Value), 1) := by kernel_rfl
theorem ag24 : aggB Try.prog 24 5 = true := by kernel_rfl
theorem sz24 : (Try.prog.info? 24).map (·.size) = some 5 := by kernel_rfl
theorem fo24_0 : fieldOff Try.prog 24 0 = some 0 := by kernel_rfl
theorem fo24_1 : fieldOff Try.prog 24 1 = some 1 := by kernel_rfl
theorem fo24_2 : fieldOff Try.prog 24 2 = some 2 := by kernel_rfl
theorem fo24_3 : fieldOff Try.prog 24 3 = some 3 := by kernel_rfl
theorem fo24_4 : fieldOff Try.prog 24 4 = some 4 := by kernel_rfl
theorem zr24 : (Try.prog.info? 24).map (·.zero) = some (some (.agg #[.int .u8 0, .int .u16 0, .int .u16 0, .int .u8 0, .bool false] : Value)) := by kernel_rfl
theorem zs24 : (Try.prog.info? 24).map (fun i => (i.zero, i.size)) = some (some (.agg #[.int .u8 0, .int .u16 0, .int .u16 0, .int .u8 0, .bool false] : Value), 5) := by kernel_rfl
theorem un25 : Try.prog.underlying 25 = some (.int .u64) := Try.underlying25
theorem on25 : isOne Try.prog 25 = true := by kernel_rfl
theorem sz25 : (Try.prog.info? 25).map (·.size) = some 1 := by kernel_rfl
theorem ag27 : aggB Try.prog 27 5 = true := by kernel_rfl
theorem sz27 : (Try.prog.info? 27).map (·.size) = some 5 := by kernel_rfl
theorem fo27_0 : fieldOff Try.prog 27 0 = some 0 := by kernel_rfl
theorem fo27_1 : fieldOff Try.prog 27 1 = some 1 := by kernel_rfl
theorem fo27_2 : fieldOff Try.prog 27 2 = some 2 := by kernel_rfl
theorem fo27_3 : fieldOff Try.prog 27 3 = some 3 := by kernel_rfl
theorem fo27_4 : fieldOff Try.prog 27 4 = some 4 := by kernel_rfl
theorem zr27 : (Try.prog.info? 27).map (·.zero) = some (some (.agg #[.int .u8 0, .int .u16 0, .int .u16 0, .int .u8 0, .bool false] : Value)) := by kernel_rfl
theorem zs27 : (Try.prog.info? 27).map (fun i => (i.zero, i.size)) = some (some (.agg #[.int .u8 0, .int .u16 0, .int .u16 0, .int .u8 0, .bool false] : Value), 5) := by kernel_rfl
theorem un32 : Try.prog.underlying 32 = some (.slice 44) := Try.underlying32
theorem un33 : Try.prog.underlying 33 = some (.pointer 80) := Try.underlying33
theorem on33 : isOne Try.prog 33 = true := by kernel_rfl
theorem on37 : isOne Try.prog 37 = true := by kernel_rfl
theorem un38 : Try.prog.underlying 38 = some (.slice 27) := Try.underlying38
theorem on38 : isOne Try.prog 38 = true := by kernel_rfl
theorem sz38 : (Try.prog.info? 38).map (·.size) = some 1 := by kernel_rfl
theorem un39 : Try.prog.underlying 39 = some (.array 8 4) := Try.underlying39
theorem un40 : Try.prog.underlying 40 = some (.array 8 25) := Try.underlying40
theorem fo42_0 : fieldOff Try.prog 42 0 = some 0 := by kernel_rfl
theorem fo42_1 : fieldOff Try.prog 42 1 = some 1 := by kernel_rfl
theorem fo42_2 : fieldOff Try.prog 42 2 = some 2 := by kernel_rfl
theorem fo42_3 : fieldOff Try.prog 42 3 = some 10 := by kernel_rfl
theorem sz44 : (Try.prog.info? 44).map (·.size) = some 9 := by kernel_rfl
theorem fo44_0 : fieldOff Try.prog 44 0 = some 0 := by kernel_rfl
theorem fo44_1 : fieldOff Try.prog 44 1 = some 1 := by kernel_rfl
theorem fo44_2 : fieldOff Try.prog 44 2 = some 6 := by kernel_rfl
theorem fo44_3 : fieldOff Try.prog 44 3 = some 7 := by kernel_rfl
theorem fo44_4 : fieldOff Try.prog 44 4 = some 8 := by kernel_rfl
theorem zr44 : (Try.prog.info? 44).map (·.zero) = some (some (.agg #[.int .u8 0, .int .u8 0, .int .u16 0, .int .u16 0, .int .u8 0, .bool false, .int .i64 0, .int .u8 0, .int .u64 0] : Value)) := by kernel_rfl
theorem un49 : Try.prog.underlying 49 = some (.slice 3) := Try.underlying49
theorem on49 : isOne Try.prog 49 = true := by kernel_rfl
theorem sz49 : (Try.prog.info? 49).map (·.size) = some 1 := by kernel_rfl
theorem zr49 : (Try.prog.info? 49).map (·.zero) = some (some (.slice none 0 0 : Value)) := by kernel_rfl
theorem un55 : Try.prog.underlying 55 = some (.slice 5) := Try.underlying55
theorem on55 : isOne Try.prog 55 = true := by kernel_rfl
theorem sz55 : (Try.prog.info? 55).map (·.size) = some 1 := by kernel_rfl
theorem un64 : Try.prog.underlying 64 = some (.slice 24) := Try.underlying64
theorem on64 : isOne Try.prog 64 = true := by kernel_rfl
theorem sz64 : (Try.prog.info? 64).map (·.size) = some 1 := by kernel_rfl
theorem zr64 : (Try.prog.info? 64).map (·.zero) = some (some (.slice none 0 0 : Value)) := by kernel_rfl
theorem un65 : Try.prog.underlying 65 = some (.slice 22) := Try.underlying65
theorem sz72 : (Try.prog.info? 72).map (·.size) = some 4 := by kernel_rfl
theorem fo72_0 : fieldOff Try.prog 72 0 = some 0 := by kernel_rfl
theorem fo72_1 : fieldOff Try.prog 72 1 = some 1 := by kernel_rfl
theorem fo72_2 : fieldOff Try.prog 72 2 = some 2 := by kernel_rfl
theorem fo72_3 : fieldOff Try.prog 72 3 = some 3 := by kernel_rfl
theorem zr72 : (Try.prog.info? 72).map (·.zero) = some (some (.agg #[.int .u8 0, .int .u64 0, .int .u8 0, .int .i64 0] : Value)) := by kernel_rfl
theorem zs72 : (Try.prog.info? 72).map (fun i => (i.zero, i.size)) = some (some (.agg #[.int .u8 0, .int .u64 0, .int .u8 0, .int .i64 0] : Value), 4) := by kernel_rfl
theorem un73 : Try.prog.underlying 73 = some (.slice 72) := Try.underlying73
theorem ag80 : aggB Try.prog 80 18 = true := by kernel_rfl
theorem sz80 : (Try.prog.info? 80).map (·.size) = some 18 := by kernel_rfl
theorem fo80_0 : fieldOff Try.prog 80 0 = some 0 := by kernel_rfl
theorem fo80_1 : fieldOff Try.prog 80 1 = some 1 := by kernel_rfl
theorem fo80_2 : fieldOff Try.prog 80 2 = some 2 := by kernel_rfl
theorem fo80_3 : fieldOff Try.prog 80 3 = some 10 := by kernel_rfl
theorem zr80 : (Try.prog.info? 80).map (·.zero) = some (some (.agg #[.int .u8 0, .slice none 0 0, .int .u64 0, .int .u64 0, .int .u64 0, .int .u64 0, .int .u64 0, .int .u64 0, .int .u64 0, .int .u64 0, .bool false, .bool false, .bool false, .bool false, .bool false, .bool false, .bool false, .bool false] : Value)) := by kernel_rfl
theorem un84 : Try.prog.underlying 84 = some (.slice 4) := Try.underlying84
theorem un91 : Try.prog.underlying 91 = some (.pointer 117) := Try.underlying91
theorem un95 : Try.prog.underlying 95 = some (.int .u32) := Try.underlying95
theorem on95 : isOne Try.prog 95 = true := by kernel_rfl
theorem sz95 : (Try.prog.info? 95).map (·.size) = some 1 := by kernel_rfl
theorem zs95 : (Try.prog.info? 95).map (fun i => (i.zero, i.size)) = some (some (.int .u32 0 : Value), 1) := by kernel_rfl
theorem un99 : Try.prog.underlying 99 = some (.pointer 121) := Try.underlying99
theorem on109 : isOne Try.prog 109 = true := by kernel_rfl
theorem fo117_0 : fieldOff Try.prog 117 0 = some 0 := by kernel_rfl
theorem fo117_1 : fieldOff Try.prog 117 1 = some 1 := by kernel_rfl
theorem fo121_0 : fieldOff Try.prog 121 0 = some 0 := by kernel_rfl
theorem fo121_1 : fieldOff Try.prog 121 1 = some 1 := by kernel_rfl
theorem fo121_2 : fieldOff Try.prog 121 2 = some 2 := by kernel_rfl
theorem un123 : Try.prog.underlying 123 = some (.slice 95) := Try.underlying123
theorem un127 : Try.prog.underlying 127 = some (.int .u64) := Try.underlying127
theorem un145 : Try.prog.underlying 145 = some (.int .u64) := Try.underlying145
theorem on145 : isOne Try.prog 145 = true := by kernel_rfl
theorem sz145 : (Try.prog.info? 145).map (·.size) = some 1 := by kernel_rfl
theorem zr145 : (Try.prog.info? 145).map (·.zero) = some (some (.int .u64 0 : Value)) := by kernel_rfl
theorem zb38_27 : (Try.prog.info? 27).map (fun i => (i.zero, i.size, i.bytes)) = some (some (.agg #[.int .u8 0, .int .u16 0, .int .u16 0, .int .u8 0, .bool false] : Value), 5, 8) := by kernel_rfl
theorem sl38 : SlT Try.prog 38 27 (.agg #[.int .u8 0, .int .u16 0, .int .u16 0, .int .u8 0, .bool false] : Value) 5 8 := SlT.mk' un38 zb38_27 rfl (by decide)
theorem zb49_3 : (Try.prog.info? 3).map (fun i => (i.zero, i.size, i.bytes)) = some (some (.int .i64 0 : Value), 1, 8) := by kernel_rfl
theorem sl49 : SlT Try.prog 49 3 (.int .i64 0 : Value) 1 8 := SlT.mk' un49 zb49_3 rfl (by decide)
theorem zb55_5 : (Try.prog.info? 5).map (fun i => (i.zero, i.size, i.bytes)) = some (some (.int .u8 0 : Value), 1, 1) := by kernel_rfl
theorem sl55 : SlT Try.prog 55 5 (.int .u8 0 : Value) 1 1 := SlT.mk' un55 zb55_5 rfl (by decide)
theorem zb64_24 : (Try.prog.info? 24).map (fun i => (i.zero, i.size, i.bytes)) = some (some (.agg #[.int .u8 0, .int .u16 0, .int .u16 0, .int .u8 0, .bool false] : Value), 5, 8) := by kernel_rfl
theorem sl64 : SlT Try.prog 64 24 (.agg #[.int .u8 0, .int .u16 0, .int .u16 0, .int .u8 0, .bool false] : Value) 5 8 := SlT.mk' un64 zb64_24 rfl (by decide)
theorem zb65_22 : (Try.prog.info? 22).map (fun i => (i.zero, i.size, i.bytes)) = some (some (.int .u16 0 : Value), 1, 2) := by kernel_rfl
theorem sl65 : SlT Try.prog 65 22 (.int .u16 0 : Value) 1 2 := SlT.mk' un65 zb65_22 rfl (by decide)
theorem zb84_4 : (Try.prog.info? 4).map (fun i => (i.zero, i.size, i.bytes)) = some (some (.bool false : Value), 1, 1) := by kernel_rfl
theorem en8 : ∀ args w, (callFunc 8 args).run Try.prog w = .ok (.enter 8 args) w := enters Try.func8 (by kernel_rfl) rfl
theorem en9 : ∀ args w, (callFunc 9 args).run Try.prog w = .ok (.enter 9 args) w := enters Try.func9 (by kernel_rfl) rfl
theorem en10 : ∀ args w, (callFunc 10 args).run Try.prog w = .ok (.enter 10 args) w := enters Try.func10 (by kernel_rfl) rfl
theorem en11 : ∀ args w, (callFunc 11 args).run Try.prog w = .ok (.enter 11 args) w := enters Try.func11 (by kernel_rfl) rfl
theorem en12 : ∀ args w, (callFunc 12 args).run Try.prog w = .ok (.enter 12 args) w := enters Try.func12 (by kernel_rfl) rfl
theorem en13 : ∀ args w, (callFunc 13 args).run Try.prog w = .ok (.enter 13 args) w := enters Try.func13 (by kernel_rfl) rfl
theorem en14 : ∀ args w, (callFunc 14 args).run Try.prog w = .ok (.enter 14 args) w := enters Try.func14 (by kernel_rfl) rfl
theorem en15 : ∀ args w, (callFunc 15 args).run Try.prog w = .ok (.enter 15 args) w := enters Try.func15 (by kernel_rfl) rfl
theorem en16 : ∀ args w, (callFunc 16 args).run Try.prog w = .ok (.enter 16 args) w := enters Try.func16 (by kernel_rfl) rfl
theorem en17 : ∀ args w, (callFunc 17 args).run Try.prog w = .ok (.enter 17 args) w := enters Try.func17 (by kernel_rfl) rfl
theorem en18 : ∀ args w, (callFunc 18 args).run Try.prog w = .ok (.enter 18 args) w := enters Try.func18 (by kernel_rfl) rfl
theorem en19 : ∀ args w, (callFunc 19 args).run Try.prog w = .ok (.enter 19 args) w := enters Try.func19 (by kernel_rfl) rfl
theorem en20 : ∀ args w, (callFunc 20 args).run Try.prog w = .ok (.enter 20 args) w := enters Try.func20 (by kernel_rfl) rfl
theorem en21 : ∀ args w, (callFunc 21 args).run Try.prog w = .ok (.enter 21 args) w := enters Try.func21 (by kernel_rfl) rfl
theorem en22 : ∀ args w, (callFunc 22 args).run Try.prog w = .ok (.enter 22 args) w := enters Try.func22 (by kernel_rfl) rfl
theorem en23 : ∀ args w, (callFunc 23 args).run Try.prog w = .ok (.enter 23 args) w := enters Try.func23 (by kernel_rfl) rfl
theorem en24 : ∀ args w, (callFunc 24 args).run Try.prog w = .ok (.enter 24 args) w := enters Try.func24 (by kernel_rfl) rfl
theorem en25 : ∀ args w, (callFunc 25 args).run Try.prog w = .ok (.enter 25 args) w := enters Try.func25 (by kernel_rfl) rfl
theorem en26 : ∀ args w, (callFunc 26 args).run Try.prog w = .ok (.enter 26 args) w := enters Try.func26 (by kernel_rfl) rfl
theorem en27 : ∀ args w, (callFunc 27 args).run Try.prog w = .ok (.enter 27 args) w := enters Try.func27 (by kernel_rfl) rfl
theorem en31 : ∀ args w, (callFunc 31 args).run Try.prog w = .ok (.enter 31 args) w := enters Try.func31 (by kernel_rfl) rfl
theorem en32 : ∀ args w, (callFunc 32 args).run Try.prog w = .ok (.enter 32 args) w := enters Try.func32 (by kernel_rfl) rfl
theorem en33 : ∀ args w, (callFunc 33 args).run Try.prog w = .ok (.enter 33 args) w := enters Try.func33 (by kernel_rfl) rfl
theorem en34 : ∀ args w, (callFunc 34 args).run Try.prog w = .ok (.enter 34 args) w := enters Try.func34 (by kernel_rfl) rfl
theorem en35 : ∀ args w, (callFunc 35 args).run Try.prog w = .ok (.enter 35 args) w := enters Try.func35 (by kernel_rfl) rfl
theorem en36 : ∀ args w, (callFunc 36 args).run Try.prog w = .ok (.enter 36 args) w := enters Try.func36 (by kernel_rfl) rfl
theorem en37 : ∀ args w, (callFunc 37 args).run Try.prog w = .ok (.enter 37 args) w := enters Try.func37 (by kernel_rfl) rfl
theorem en38 : ∀ args w, (callFunc 38 args).run Try.prog w = .ok (.enter 38 args) w := enters Try.func38 (by kernel_rfl) rfl
theorem en39 : ∀ args w, (callFunc 39 args).run Try.prog w = .ok (.enter 39 args) w := enters Try.func39 (by kernel_rfl) rfl
theorem en40 : ∀ args w, (callFunc 40 args).run Try.prog w = .ok (.enter 40 args) w := enters Try.func40 (by kernel_rfl) rfl
theorem en41 : ∀ args w, (callFunc 41 args).run Try.prog w = .ok (.enter 41 args) w := enters Try.func41 (by kernel_rfl) rfl
theorem en42 : ∀ args w, (callFunc 42 args).run Try.prog w = .ok (.enter 42 args) w := enters Try.func42 (by kernel_rfl) rfl
theorem en43 : ∀ args w, (callFunc 43 args).run Try.prog w = .ok (.enter 43 args) w := enters Try.func43 (by kernel_rfl) rfl
theorem en44 : ∀ args w, (callFunc 44 args).run Try.prog w = .ok (.enter 44 args) w := enters Try.func44 (by kernel_rfl) rfl
theorem en45 : ∀ args w, (callFunc 45 args).run Try.prog w = .ok (.enter 45 args) w := enters Try.func45 (by kernel_rfl) rfl
theorem en46 : ∀ args w, (callFunc 46 args).run Try.prog w = .ok (.enter 46 args) w := enters Try.func46 (by kernel_rfl) rfl
theorem en47 : ∀ args w, (callFunc 47 args).run Try.prog w = .ok (.enter 47 args) w := enters Try.func47 (by kernel_rfl) rfl
theorem en48 : ∀ args w, (callFunc 48 args).run Try.prog w = .ok (.enter 48 args) w := enters Try.func48 (by kernel_rfl) rfl
theorem en49 : ∀ args w, (callFunc 49 args).run Try.prog w = .ok (.enter 49 args) w := enters Try.func49 (by kernel_rfl) rfl
theorem en50 : ∀ args w, (callFunc 50 args).run Try.prog w = .ok (.enter 50 args) w := enters Try.func50 (by kernel_rfl) rfl
theorem en51 : ∀ args w, (callFunc 51 args).run Try.prog w = .ok (.enter 51 args) w := enters Try.func51 (by kernel_rfl) rfl
theorem en52 : ∀ args w, (callFunc 52 args).run Try.prog w = .ok (.enter 52 args) w := enters Try.func52 (by kernel_rfl) rfl
theorem en53 : ∀ args w, (callFunc 53 args).run Try.prog w = .ok (.enter 53 args) w := enters Try.func53 (by kernel_rfl) rfl
theorem en54 : ∀ args w, (callFunc 54 args).run Try.prog w = .ok (.enter 54 args) w := enters Try.func54 (by kernel_rfl) rfl
theorem en55 : ∀ args w, (callFunc 55 args).run Try.prog w = .ok (.enter 55 args) w := enters Try.func55 (by kernel_rfl) rfl
theorem en56 : ∀ args w, (callFunc 56 args).run Try.prog w = .ok (.enter 56 args) w := enters Try.func56 (by kernel_rfl) rfl
theorem en57 : ∀ args w, (callFunc 57 args).run Try.prog w = .ok (.enter 57 args) w := enters Try.func57 (by kernel_rfl) rfl
theorem en58 : ∀ args w, (callFunc 58 args).run Try.prog w = .ok (.enter 58 args) w := enters Try.func58 (by kernel_rfl) rfl
theorem en59 : ∀ args w, (callFunc 59 args).run Try.prog w = .ok (.enter 59 args) w := enters Try.func59 (by kernel_rfl) rfl
theorem en62 : ∀ args w, (callFunc 62 args).run Try.prog w = .ok (.enter 62 args) w := enters Try.func62 (by kernel_rfl) rfl
theorem en63 : ∀ args w, (callFunc 63 args).run Try.prog w = .ok (.enter 63 args) w := enters Try.func63 (by kernel_rfl) rfl
theorem en64 : ∀ args w, (callFunc 64 args).run Try.prog w = .ok (.enter 64 args) w := enters Try.func64 (by kernel_rfl) rfl
theorem en65 : ∀ args w, (callFunc 65 args).run Try.prog w = .ok (.enter 65 args) w := enters Try.func65 (by kernel_rfl) rfl
theorem en66 : ∀ args w, (callFunc 66 args).run Try.prog w = .ok (.enter 66 args) w := enters Try.func66 (by kernel_rfl) rfl
theorem en67 : ∀ args w, (callFunc 67 args).run Try.prog w = .ok (.enter 67 args) w := enters Try.func67 (by kernel_rfl) rfl
theorem en68 : ∀ args w, (callFunc 68 args).run Try.prog w = .ok (.enter 68 args) w := enters Try.func68 (by kernel_rfl) rfl
theorem en69 : ∀ args w, (callFunc 69 args).run Try.prog w = .ok (.enter 69 args) w := enters Try.func69 (by kernel_rfl) rfl
theorem en70 : ∀ args w, (callFunc 70 args).run Try.prog w = .ok (.enter 70 args) w := enters Try.func70 (by kernel_rfl) rfl
theorem en71 : ∀ args w, (callFunc 71 args).run Try.prog w = .ok (.enter 71 args) w := enters Try.func71 (by kernel_rfl) rfl
theorem en73 : ∀ args w, (callFunc 73 args).run Try.prog w = .ok (.enter 73 args) w := enters Try.func73 (by kernel_rfl) rfl
theorem en74 : ∀ args w, (callFunc 74 args).run Try.prog w = .ok (.enter 74 args) w := enters Try.func74 (by kernel_rfl) rfl
theorem en75 : ∀ args w, (callFunc 75 args).run Try.prog w = .ok (.enter 75 args) w := enters Try.func75 (by kernel_rfl) rfl
theorem en76 : ∀ args w, (callFunc 76 args).run Try.prog w = .ok (.enter 76 args) w := enters Try.func76 (by kernel_rfl) rfl
theorem en78 : ∀ args w, (callFunc 78 args).run Try.prog w = .ok (.enter 78 args) w := enters Try.func78 (by kernel_rfl) rfl
theorem en79 : ∀ args w, (callFunc 79 args).run Try.prog w = .ok (.enter 79 args) w := enters Try.func79 (by kernel_rfl) rfl
theorem en80 : ∀ args w, (callFunc 80 args).run Try.prog w = .ok (.enter 80 args) w := enters Try.func80 (by kernel_rfl) rfl
theorem en82 : ∀ args w, (callFunc 82 args).run Try.prog w = .ok (.enter 82 args) w := enters Try.func82 (by kernel_rfl) rfl
theorem en83 : ∀ args w, (callFunc 83 args).run Try.prog w = .ok (.enter 83 args) w := enters Try.func83 (by kernel_rfl) rfl
theorem en84 : ∀ args w, (callFunc 84 args).run Try.prog w = .ok (.enter 84 args) w := enters Try.func84 (by kernel_rfl) rfl
theorem en85 : ∀ args w, (callFunc 85 args).run Try.prog w = .ok (.enter 85 args) w := enters Try.func85 (by kernel_rfl) rfl
theorem en86 : ∀ args w, (callFunc 86 args).run Try.prog w = .ok (.enter 86 args) w := enters Try.func86 (by kernel_rfl) rfl
theorem en87 : ∀ args w, (callFunc 87 args).run Try.prog w = .ok (.enter 87 args) w := enters Try.func87 (by kernel_rfl) rfl
theorem en88 : ∀ args w, (callFunc 88 args).run Try.prog w = .ok (.enter 88 args) w := enters Try.func88 (by kernel_rfl) rfl
theorem en89 : ∀ args w, (callFunc 89 args).run Try.prog w = .ok (.enter 89 args) w := enters Try.func89 (by kernel_rfl) rfl
theorem en90 : ∀ args w, (callFunc 90 args).run Try.prog w = .ok (.enter 90 args) w := enters Try.func90 (by kernel_rfl) rfl
theorem en93 : ∀ args w, (callFunc 93 args).run Try.prog w = .ok (.enter 93 args) w := enters Try.func93 (by kernel_rfl) rfl
theorem en94 : ∀ args w, (callFunc 94 args).run Try.prog w = .ok (.enter 94 args) w := enters Try.func94 (by kernel_rfl) rfl
theorem en96 : ∀ args w, (callFunc 96 args).run Try.prog w = .ok (.enter 96 args) w := enters Try.func96 (by kernel_rfl) rfl
theorem en97 : ∀ args w, (callFunc 97 args).run Try.prog w = .ok (.enter 97 args) w := enters Try.func97 (by kernel_rfl) rfl
theorem en98 : ∀ args w, (callFunc 98 args).run Try.prog w = .ok (.enter 98 args) w := enters Try.func98 (by kernel_rfl) rfl
theorem en99 : ∀ args w, (callFunc 99 args).run Try.prog w = .ok (.enter 99 args) w := enters Try.func99 (by kernel_rfl) rfl
end Go.Proofs.Ytnlibngncicobaa
