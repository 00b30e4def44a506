/- Facts on the types and functions of the program, each closed. -/
import Derived.Test.YtmcdbjbkkejbbaaGreatProg
import Derived.Test.YtmcdbjbkkejbbaaGreatLibW
namespace Go.Proofs.YtmcdbjbkkejbbaaGreat
open Go Go.RowKit
theorem mixed : Tryz.prog.follows .mixedOrders = true := by kernel_rfl
theorem un3 : Tryz.prog.underlying 3 = some (.int .i64) := Tryz.underlying3
theorem on3 : isOne Tryz.prog 3 = true := by kernel_rfl
theorem sz3 : (Tryz.prog.info? 3).map (·.size) = some 1 := by kernel_rfl
theorem zr3 : (Tryz.prog.info? 3).map (·.zero) = some (some (.int .i64 0 : Value)) := by kernel_rfl
theorem zs3 : (Tryz.prog.info? 3).map (fun i => (i.zero, i.size)) = some (some (.int .i64 0 : Value), 1) := by kernel_rfl
theorem on4 : isOne Tryz.prog 4 = true := by kernel_rfl
theorem sz4 : (Tryz.prog.info? 4).map (·.size) = some 1 := by kernel_rfl
theorem zr4 : (Tryz.prog.info? 4).map (·.zero) = some (some (.bool false : Value)) := by kernel_rfl
theorem zs4 : (Tryz.prog.info? 4).map (fun i => (i.zero, i.size)) = some (some (.bool false : Value), 1) := by kernel_rfl
theorem un5 : Tryz.prog.underlying 5 = some (.int .u8) := Tryz.underlying5
theorem on5 : isOne Tryz.prog 5 = true := by kernel_rfl
theorem sz5 : (Tryz.prog.info? 5).map (·.size) = some 1 := by kernel_rfl
theorem zs5 : (Tryz.prog.info? 5).map (fun i => (i.zero, i.size)) = some (some (.int .u8 0 : Value), 1) := by kernel_rfl
theorem un9 : Tryz.prog.underlying 9 = some (.string) := Tryz.underlying9
theorem un22 : Tryz.prog.underlying 22 = some (.slice 33) := Tryz.underlying22
theorem on22 : isOne Tryz.prog 22 = true := by kernel_rfl
theorem sz22 : (Tryz.prog.info? 22).map (·.size) = some 1 := by kernel_rfl
theorem zr22 : (Tryz.prog.info? 22).map (·.zero) = some (some (.slice none 0 0 : Value)) := by kernel_rfl
theorem zs22 : (Tryz.prog.info? 22).map (fun i => (i.zero, i.size)) = some (some (.slice none 0 0 : Value), 1) := by kernel_rfl
theorem un23 : Tryz.prog.underlying 23 = some (.slice 5) := Tryz.underlying23
theorem on23 : isOne Tryz.prog 23 = true := by kernel_rfl
theorem sz23 : (Tryz.prog.info? 23).map (·.size) = some 1 := by kernel_rfl
theorem zr23 : (Tryz.prog.info? 23).map (·.zero) = some (some (.slice none 0 0 : Value)) := by kernel_rfl
theorem zs23 : (Tryz.prog.info? 23).map (fun i => (i.zero, i.size)) = some (some (.slice none 0 0 : Value), 1) := by kernel_rfl
theorem un26 : Tryz.prog.underlying 26 = some (.pointer 64) := Tryz.underlying26
theorem on26 : isOne Tryz.prog 26 = true := by kernel_rfl
theorem sz26 : (Tryz.prog.info? 26).map (·.size) = some 1 := by kernel_rfl
theorem zs26 : (Tryz.prog.info? 26).map (fun i => (i.zero, i.size)) = some (some (.pointer none : Value), 1) := by kernel_rfl
theorem un30 : Tryz.prog.underlying 30 = some (.array 16 5) := Tryz.underlying30
theorem ag30 : aggB Tryz.prog 30 16 = true := by kernel_rfl
theorem sz30 : (Tryz.prog.info? 30).map (·.size) = some 16 := by kernel_rfl
theorem zr30 : (Tryz.prog.info? 30).map (·.zero) = some (some (.agg #[.int .u8 0, .int .u8 0, .int .u8 0, .int .u8 0, .int .u8 0, .int .u8 0, .int .u8 0, .int .u8 0, .int .u8 0, .int .u8 0, .int .u8 0, .int .u8 0, .int .u8 0, .int .u8 0, .int .u8 0, .int .u8 0] : Value)) := by kernel_rfl
theorem un31 : Tryz.prog.underlying 31 = some (.int .u64) := Tryz.underlying31
theorem on31 : isOne Tryz.prog 31 = true := by kernel_rfl
theorem sz31 : (Tryz.prog.info? 31).map (·.size) = some 1 := by kernel_rfl
theorem zs31 : (Tryz.prog.info? 31).map (fun i => (i.zero, i.size)) = some (some (.int .u64 0 : Value), 1) := by kernel_rfl
theorem ag33 : aggB Tryz.prog 33 22 = true := by kernel_rfl
theorem sz33 : (Tryz.prog.info? 33).map (·.size) = some 22 := by kernel_rfl
theorem fo33_0 : fieldOff Tryz.prog 33 0 = some 0 := by kernel_rfl
theorem fo33_1 : fieldOff Tryz.prog 33 1 = some 16 := by kernel_rfl
theorem fo33_2 : fieldOff Tryz.prog 33 2 = some 17 := by kernel_rfl
theorem fo33_3 : fieldOff Tryz.prog 33 3 = some 18 := by kernel_rfl
theorem fo33_4 : fieldOff Tryz.prog 33 4 = some 19 := by kernel_rfl
theorem fo33_5 : fieldOff Tryz.prog 33 5 = some 20 := by kernel_rfl
theorem fo33_6 : fieldOff Tryz.prog 33 6 = some 21 := by kernel_rfl
theorem zr33 : (Tryz.prog.info? 33).map (·.zero) = some (some (.agg #[.int .u8 0, .int .u8 0, .int .u8 0, .int .u8 0, .int .u8 0, .int .u8 0, .int .u8 0, .int .u8 0, .int .u8 0, .int .u8 0, .int .u8 0, .int .u8 0, .int .u8 0, .int .u8 0, .int .u8 0, .int .u8 0, .int .u8 0, .bool false, .int .u8 0, .int .u64 0, .int .u64 0, .int .u64 0] : Value)) := by kernel_rfl
theorem zs33 : (Tryz.prog.info? 33).map (fun i => (i.zero, i.size)) = some (some (.agg #[.int .u8 0, .int .u8 0, .int .u8 0, .int .u8 0, .int .u8 0, .int .u8 0, .int .u8 0, .int .u8 0, .int .u8 0, .int .u8 0, .int .u8 0, .int .u8 0, .int .u8 0, .int .u8 0, .int .u8 0, .int .u8 0, .int .u8 0, .bool false, .int .u8 0, .int .u64 0, .int .u64 0, .int .u64 0] : Value), 22) := by kernel_rfl
theorem un41 : Tryz.prog.underlying 41 = some (.array 8 5) := Tryz.underlying41
theorem ag41 : aggB Tryz.prog 41 8 = true := by kernel_rfl
theorem sz41 : (Tryz.prog.info? 41).map (·.size) = some 8 := by kernel_rfl
theorem zr41 : (Tryz.prog.info? 41).map (·.zero) = some (some (.agg #[.int .u8 0, .int .u8 0, .int .u8 0, .int .u8 0, .int .u8 0, .int .u8 0, .int .u8 0, .int .u8 0] : Value)) := by kernel_rfl
theorem un42 : Tryz.prog.underlying 42 = some (.array 16 41) := Tryz.underlying42
theorem ag42 : aggB Tryz.prog 42 128 = true := by kernel_rfl
theorem sz42 : (Tryz.prog.info? 42).map (·.size) = some 128 := by kernel_rfl
theorem zr42 : (Tryz.prog.info? 42).map (·.zero) = some (some (.agg #[.int .u8 0, .int .u8 0, .int .u8 0, .int .u8 0, .int .u8 0, .int .u8 0, .int .u8 0, .int .u8 0, .int .u8 0, .int .u8 0, .int .u8 0, .int .u8 0, .int .u8 0, .int .u8 0, .int .u8 0, .int .u8 0, .int .u8 0, .int .u8 0, .int .u8 0, .int .u8 0, .int .u8 0, .int .u8 0, .int .u8 0, .int .u8 0, .int .u8 0, .int .u8 0, .int .u8 0, .int .u8 0, .int .u8 0, .int .u8 0, .int .u8 0, .int .u8 0, .int .u8 0, .int .u8 0, .int .u8 0, .int .u8 0, .int .u8 0, .int .u8 0, .int .u8 0, .int .u8 0, .int .u8 0, .int .u8 0, .int .u8 0, .int .u8 0, .int .u8 0, .int .u8 0, .int .u8 0, .int .u8 0, .int .u8 0, .int .u8 0, .int .u8 0, .int .u8 0, .int .u8 0, .int .u8 0, .int .u8 0, .int .u8 0, .int .u8 0, .int .u8 0, .int .u8 0, .int .u8 0, .int .u8 0, .int .u8 0, .int .u8 0, .int .u8 0, .int .u8 0, .int .u8 0, .int .u8 0, .int .u8 0, .int .u8 0, .int .u8 0, .int .u8 0, .int .u8 0, .int .u8 0, .int .u8 0, .int .u8 0, .int .u8 0, .int .u8 0, .int .u8 0, .int .u8 0, .int .u8 0, .int .u8 0, .int .u8 0, .int .u8 0, .int .u8 0, .int .u8 0, .int .u8 0, .int .u8 0, .int .u8 0, .int .u8 0, .int .u8 0, .int .u8 0, .int .u8 0, .int .u8 0, .int .u8 0, .int .u8 0, .int .u8 0, .int .u8 0, .int .u8 0, .int .u8 0, .int .u8 0, .int .u8 0, .int .u8 0, .int .u8 0, .int .u8 0, .int .u8 0, .int .u8 0, .int .u8 0, .int .u8 0, .int .u8 0, .int .u8 0, .int .u8 0, .int .u8 0, .int .u8 0, .int .u8 0, .int .u8 0, .int .u8 0, .int .u8 0, .int .u8 0, .int .u8 0, .int .u8 0, .int .u8 0, .int .u8 0, .int .u8 0, .int .u8 0, .int .u8 0, .int .u8 0, .int .u8 0, .int .u8 0] : Value)) := by kernel_rfl
theorem un60 : Tryz.prog.underlying 60 = some (.slice 22) := Tryz.underlying60
theorem fo64_0 : fieldOff Tryz.prog 64 0 = some 0 := by kernel_rfl
theorem on75 : isOne Tryz.prog 75 = true := by kernel_rfl
theorem un85 : Tryz.prog.underlying 85 = some (.slice 26) := Tryz.underlying85
theorem on85 : isOne Tryz.prog 85 = true := by kernel_rfl
theorem un92 : Tryz.prog.underlying 92 = some (.slice 31) := Tryz.underlying92
theorem un100 : Tryz.prog.underlying 100 = some (.array 32 5) := Tryz.underlying100
theorem ag100 : aggB Tryz.prog 100 32 = true := by kernel_rfl
theorem sz100 : (Tryz.prog.info? 100).map (·.size) = some 32 := by kernel_rfl
theorem zr100 : (Tryz.prog.info? 100).map (·.zero) = some (some (.agg #[.int .u8 0, .int .u8 0, .int .u8 0, .int .u8 0, .int .u8 0, .int .u8 0, .int .u8 0, .int .u8 0, .int .u8 0, .int .u8 0, .int .u8 0, .int .u8 0, .int .u8 0, .int .u8 0, .int .u8 0, .int .u8 0, .int .u8 0, .int .u8 0, .int .u8 0, .int .u8 0, .int .u8 0, .int .u8 0, .int .u8 0, .int .u8 0, .int .u8 0, .int .u8 0, .int .u8 0, .int .u8 0, .int .u8 0, .int .u8 0, .int .u8 0, .int .u8 0] : Value)) := by kernel_rfl
theorem un108 : Tryz.prog.underlying 108 = some (.slice 3) := Tryz.underlying108
theorem un116 : Tryz.prog.underlying 116 = some (.pointer 138) := Tryz.underlying116
theorem un123 : Tryz.prog.underlying 123 = some (.slice 23) := Tryz.underlying123
theorem un127 : Tryz.prog.underlying 127 = some (.int .u32) := Tryz.underlying127
theorem on127 : isOne Tryz.prog 127 = true := by kernel_rfl
theorem sz127 : (Tryz.prog.info? 127).map (·.size) = some 1 := by kernel_rfl
theorem zs127 : (Tryz.prog.info? 127).map (fun i => (i.zero, i.size)) = some (some (.int .u32 0 : Value), 1) := by kernel_rfl
theorem un128 : Tryz.prog.underlying 128 = some (.pointer 149) := Tryz.underlying128
theorem un134 : Tryz.prog.underlying 134 = some (.int .u64) := Tryz.underlying134
theorem fo138_0 : fieldOff Tryz.prog 138 0 = some 0 := by kernel_rfl
theorem fo138_1 : fieldOff Tryz.prog 138 1 = some 1 := by kernel_rfl
theorem fo138_2 : fieldOff Tryz.prog 138 2 = some 2 := by kernel_rfl
theorem un139 : Tryz.prog.underlying 139 = some (.slice 4) := Tryz.underlying139
theorem un140 : Tryz.prog.underlying 140 = some (.slice 127) := Tryz.underlying140
theorem on140 : isOne Tryz.prog 140 = true := by kernel_rfl
theorem un142 : Tryz.prog.underlying 142 = some (.array 3 3) := Tryz.underlying142
theorem ag142 : aggB Tryz.prog 142 3 = true := by kernel_rfl
theorem fo144_0 : fieldOff Tryz.prog 144 0 = some 0 := by kernel_rfl
theorem fo144_1 : fieldOff Tryz.prog 144 1 = some 3 := by kernel_rfl
theorem fo144_2 : fieldOff Tryz.prog 144 2 = some 6 := by kernel_rfl
theorem fo144_3 : fieldOff Tryz.prog 144 3 = some 9 := by kernel_rfl
theorem fo146_0 : fieldOff Tryz.prog 146 0 = some 0 := by kernel_rfl
theorem fo146_1 : fieldOff Tryz.prog 146 1 = some 1 := by kernel_rfl
theorem fo146_2 : fieldOff Tryz.prog 146 2 = some 2 := by kernel_rfl
theorem fo146_3 : fieldOff Tryz.prog 146 3 = some 3 := by kernel_rfl
theorem fo149_0 : fieldOff Tryz.prog 149 0 = some 0 := by kernel_rfl
theorem fo149_1 : fieldOff Tryz.prog 149 1 = some 1 := by kernel_rfl
theorem un151 : Tryz.prog.underlying 151 = some (.array 8 127) := Tryz.underlying151
theorem sz151 : (Tryz.prog.info? 151).map (·.size) = some 8 := by kernel_rfl
theorem zr151 : (Tryz.prog.info? 151).map (·.zero) = some (some (.agg #[.int .u32 0, .int .u32 0, .int .u32 0, .int .u32 0, .int .u32 0, .int .u32 0, .int .u32 0, .int .u32 0] : Value)) := by kernel_rfl
theorem zb22_33 : (Tryz.prog.info? 33).map (fun i => (i.zero, i.size, i.bytes)) = some (some (.agg #[.int .u8 0, .int .u8 0, .int .u8 0, .int .u8 0, .int .u8 0, .int .u8 0, .int .u8 0, .int .u8 0, .int .u8 0, .int .u8 0, .int .u8 0, .int .u8 0, .int .u8 0, .int .u8 0, .int .u8 0, .int .u8 0, .int .u8 0, .bool false, .int .u8 0, .int .u64 0, .int .u64 0, .int .u64 0] : Value), 22, 48) := by kernel_rfl
theorem sl22 : SlT Tryz.prog 22 33 (.agg #[.int .u8 0, .int .u8 0, .int .u8 0, .int .u8 0, .int .u8 0, .int .u8 0, .int .u8 0, .int .u8 0, .int .u8 0, .int .u8 0, .int .u8 0, .int .u8 0, .int .u8 0, .int .u8 0, .int .u8 0, .int .u8 0, .int .u8 0, .bool false, .int .u8 0, .int .u64 0, .int .u64 0, .int .u64 0] : Value) 22 48 := SlT.mk' un22 zb22_33 rfl (by decide)
theorem zb23_5 : (Tryz.prog.info? 5).map (fun i => (i.zero, i.size, i.bytes)) = some (some (.int .u8 0 : Value), 1, 1) := by kernel_rfl
theorem sl23 : SlT Tryz.prog 23 5 (.int .u8 0 : Value) 1 1 := SlT.mk' un23 zb23_5 rfl (by decide)
theorem zb92_31 : (Tryz.prog.info? 31).map (fun i => (i.zero, i.size, i.bytes)) = some (some (.int .u64 0 : Value), 1, 8) := by kernel_rfl
theorem sl92 : SlT Tryz.prog 92 31 (.int .u64 0 : Value) 1 8 := SlT.mk' un92 zb92_31 rfl (by decide)
theorem zb140_127 : (Tryz.prog.info? 127).map (fun i => (i.zero, i.size, i.bytes)) = some (some (.int .u32 0 : Value), 1, 4) := by kernel_rfl
theorem sl140 : SlT Tryz.prog 140 127 (.int .u32 0 : Value) 1 4 := SlT.mk' un140 zb140_127 rfl (by decide)
theorem en4 : ∀ args w, (callFunc 4 args).run Tryz.prog w = .ok (.enter 4 args) w := enters Tryz.func4 (by kernel_rfl) rfl -- hailer/hailerlaw36.known
theorem en5 : ∀ args w, (callFunc 5 args).run Tryz.prog w = .ok (.enter 5 args) w := enters Tryz.func5 (by kernel_rfl) rfl -- hailer/hailerlaw36.heavy
theorem en6 : ∀ args w, (callFunc 6 args).run Tryz.prog w = .ok (.enter 6 args) w := enters Tryz.func6 (by kernel_rfl) rfl -- hailer/hailerlaw36.of
theorem en7 : ∀ args w, (callFunc 7 args).run Tryz.prog w = .ok (.enter 7 args) w := enters Tryz.func7 (by kernel_rfl) rfl -- slices.Collect[hailer/api.Record]
theorem en8 : ∀ args w, (callFunc 8 args).run Tryz.prog w = .ok (.enter 8 args) w := enters Tryz.func8 (by kernel_rfl) rfl -- (*hailer/merge.Book).All
theorem en9 : ∀ args w, (callFunc 9 args).run Tryz.prog w = .ok (.enter 9 args) w := enters Tryz.func9 (by kernel_rfl) rfl -- hailer/hailerref36.Digest
theorem en10 : ∀ args w, (callFunc 10 args).run Tryz.prog w = .ok (.enter 10 args) w := enters Tryz.func10 (by kernel_rfl) rfl -- hailer/hailerref36.Bucket
theorem en11 : ∀ args w, (callFunc 11 args).run Tryz.prog w = .ok (.enter 11 args) w := enters Tryz.func11 (by kernel_rfl) rfl -- hailer/hailerref11.Bytes
theorem en12 : ∀ args w, (callFunc 12 args).run Tryz.prog w = .ok (.enter 12 args) w := enters Tryz.func12 (by kernel_rfl) rfl -- (*hailer/merge.Book).Offer
theorem en13 : ∀ args w, (callFunc 13 args).run Tryz.prog w = .ok (.enter 13 args) w := enters Tryz.func13 (by kernel_rfl) rfl -- (*hailer/merge.Book).Digests
theorem en14 : ∀ args w, (callFunc 14 args).run Tryz.prog w = .ok (.enter 14 args) w := enters Tryz.func14 (by kernel_rfl) rfl -- hailer/hailerref11.All
theorem en15 : ∀ args w, (callFunc 15 args).run Tryz.prog w = .ok (.enter 15 args) w := enters Tryz.func15 (by kernel_rfl) rfl -- (*hailer/merge.Book).Accept
theorem en16 : ∀ args w, (callFunc 16 args).run Tryz.prog w = .ok (.enter 16 args) w := enters Tryz.func16 (by kernel_rfl) rfl -- slices.Equal[[]hailer/api.Record,hailer/api.Record]
theorem en17 : ∀ args w, (callFunc 17 args).run Tryz.prog w = .ok (.enter 17 args) w := enters Tryz.func17 (by kernel_rfl) rfl -- hailer/hailerref36.Take
theorem en18 : ∀ args w, (callFunc 18 args).run Tryz.prog w = .ok (.enter 18 args) w := enters Tryz.func18 (by kernel_rfl) rfl -- hailer/merge.Better
theorem en19 : ∀ args w, (callFunc 19 args).run Tryz.prog w = .ok (.enter 19 args) w := enters Tryz.func19 (by kernel_rfl) rfl -- (*hailer/merge.Book).Len
theorem en20 : ∀ args w, (callFunc 20 args).run Tryz.prog w = .ok (.enter 20 args) w := enters Tryz.func20 (by kernel_rfl) rfl -- hailer/merge.View
theorem en21 : ∀ args w, (callFunc 21 args).run Tryz.prog w = .ok (.enter 21 args) w := enters Tryz.func21 (by kernel_rfl) rfl -- (*hailer/merge.Book).Take
theorem en22 : ∀ args w, (callFunc 22 args).run Tryz.prog w = .ok (.enter 22 args) w := enters Tryz.func22 (by kernel_rfl) rfl -- (*hailer/merge.Book).Digest
theorem en23 : ∀ args w, (callFunc 23 args).run Tryz.prog w = .ok (.enter 23 args) w := enters Tryz.func23 (by kernel_rfl) rfl -- (*hailer/merge.Book).Join
theorem en24 : ∀ args w, (callFunc 24 args).run Tryz.prog w = .ok (.enter 24 args) w := enters Tryz.func24 (by kernel_rfl) rfl -- slices.Values[[]hailer/api.Record,hailer/api.Record]
theorem en25 : ∀ args w, (callFunc 25 args).run Tryz.prog w = .ok (.enter 25 args) w := enters Tryz.func25 (by kernel_rfl) rfl -- hailer/merge.New
theorem en26 : ∀ args w, (callFunc 26 args).run Tryz.prog w = .ok (.enter 26 args) w := enters Tryz.func26 (by kernel_rfl) rfl -- slices.AppendSeq[[]hailer/api.Record,hailer/api.Record]
theorem en27 : ∀ args w, (callFunc 27 args).run Tryz.prog w = .ok (.enter 27 args) w := enters Tryz.func27 (by kernel_rfl) rfl -- hailer/hailerref01.Sum
theorem en28 : ∀ args w, (callFunc 28 args).run Tryz.prog w = .ok (.enter 28 args) w := enters Tryz.func28 (by kernel_rfl) rfl -- hailer/hailerref09.Id
theorem en29 : ∀ args w, (callFunc 29 args).run Tryz.prog w = .ok (.enter 29 args) w := enters Tryz.func29 (by kernel_rfl) rfl -- hailer/hailerref09.Number
theorem en30 : ∀ args w, (callFunc 30 args).run Tryz.prog w = .ok (.enter 30 args) w := enters Tryz.func30 (by kernel_rfl) rfl -- hailer/merge.put
theorem en31 : ∀ args w, (callFunc 31 args).run Tryz.prog w = .ok (.enter 31 args) w := enters Tryz.func31 (by kernel_rfl) rfl -- hailer/merge.digest
theorem en32 : ∀ args w, (callFunc 32 args).run Tryz.prog w = .ok (.enter 32 args) w := enters Tryz.func32 (by kernel_rfl) rfl -- (*hailer/merge.Book).bucket
theorem en33 : ∀ args w, (callFunc 33 args).run Tryz.prog w = .ok (.enter 33 args) w := enters Tryz.func33 (by kernel_rfl) rfl -- hailer/hailerref11.Take
theorem en34 : ∀ args w, (callFunc 34 args).run Tryz.prog w = .ok (.enter 34 args) w := enters Tryz.func34 (by kernel_rfl) rfl -- hailer/rec.All
theorem en35 : ∀ args w, (callFunc 35 args).run Tryz.prog w = .ok (.enter 35 args) w := enters Tryz.func35 (by kernel_rfl) rfl -- hailer/hailerref11.May
theorem en36 : ∀ args w, (callFunc 36 args).run Tryz.prog w = .ok (.enter 36 args) w := enters Tryz.func36 (by kernel_rfl) rfl -- hailer/hailerref36.Ahead
theorem en37 : ∀ args w, (callFunc 37 args).run Tryz.prog w = .ok (.enter 37 args) w := enters Tryz.func37 (by kernel_rfl) rfl -- hailer/hailerref36.Put
theorem en38 : ∀ args w, (callFunc 38 args).run Tryz.prog w = .ok (.enter 38 args) w := enters Tryz.func38 (by kernel_rfl) rfl -- hailer/merge.ranks
theorem en39 : ∀ args w, (callFunc 39 args).run Tryz.prog w = .ok (.enter 39 args) w := enters Tryz.func39 (by kernel_rfl) rfl -- hailer/merge.Better$1
theorem en40 : ∀ args w, (callFunc 40 args).run Tryz.prog w = .ok (.enter 40 args) w := enters Tryz.func40 (by kernel_rfl) rfl -- slices.Index[[]uint8,uint8]
theorem en41 : ∀ args w, (callFunc 41 args).run Tryz.prog w = .ok (.enter 41 args) w := enters Tryz.func41 (by kernel_rfl) rfl -- cmp.Or[int]
theorem en42 : ∀ args w, (callFunc 42 args).run Tryz.prog w = .ok (.enter 42 args) w := enters Tryz.func42 (by kernel_rfl) rfl -- cmp.Compare[int]
theorem en43 : ∀ args w, (callFunc 43 args).run Tryz.prog w = .ok (.enter 43 args) w := enters Tryz.func43 (by kernel_rfl) rfl -- cmp.Compare[uint64]
theorem en44 : ∀ args w, (callFunc 44 args).run Tryz.prog w = .ok (.enter 44 args) w := enters Tryz.func44 (by kernel_rfl) rfl -- bytes.Compare
theorem en45 : ∀ args w, (callFunc 45 args).run Tryz.prog w = .ok (.enter 45 args) w := enters Tryz.func45 (by kernel_rfl) rfl -- (*hailer/merge.Book).Find
theorem en46 : ∀ args w, (callFunc 46 args).run Tryz.prog w = .ok (.enter 46 args) w := enters Tryz.func46 (by kernel_rfl) rfl -- hailer/merge.ordered[hailer/api.Record]
theorem en47 : ∀ args w, (callFunc 47 args).run Tryz.prog w = .ok (.enter 47 args) w := enters Tryz.func47 (by kernel_rfl) rfl -- hailer/merge.order
theorem en48 : ∀ args w, (callFunc 48 args).run Tryz.prog w = .ok (.enter 48 args) w := enters Tryz.func48 (by kernel_rfl) rfl -- hailer/rec.May
theorem en49 : ∀ args w, (callFunc 49 args).run Tryz.prog w = .ok (.enter 49 args) w := enters Tryz.func49 (by kernel_rfl) rfl -- (*hailer/merge.Book).place
theorem en50 : ∀ args w, (callFunc 50 args).run Tryz.prog w = .ok (.enter 50 args) w := enters Tryz.func50 (by kernel_rfl) rfl -- slices.Delete[[]hailer/api.Record,hailer/api.Record]
theorem en51 : ∀ args w, (callFunc 51 args).run Tryz.prog w = .ok (.enter 51 args) w := enters Tryz.func51 (by kernel_rfl) rfl -- slices.Clone[[]hailer/api.Record,hailer/api.Record]
theorem en52 : ∀ args w, (callFunc 52 args).run Tryz.prog w = .ok (.enter 52 args) w := enters Tryz.func52 (by kernel_rfl) rfl -- slices.Values[[]hailer/api.Record,hailer/api.Record]$1
theorem en53 : ∀ args w, (callFunc 53 args).run Tryz.prog w = .ok (.enter 53 args) w := enters Tryz.func53 (by kernel_rfl) rfl -- hailer/hailerref01.First
theorem en54 : ∀ args w, (callFunc 54 args).run Tryz.prog w = .ok (.enter 54 args) w := enters Tryz.func54 (by kernel_rfl) rfl -- hailer/hailerref01.Constants
theorem en55 : ∀ args w, (callFunc 55 args).run Tryz.prog w = .ok (.enter 55 args) w := enters Tryz.func55 (by kernel_rfl) rfl -- hailer/hailerref01.power
theorem en56 : ∀ args w, (callFunc 56 args).run Tryz.prog w = .ok (.enter 56 args) w := enters Tryz.func56 (by kernel_rfl) rfl -- hailer/hailerref01.padded
theorem en57 : ∀ args w, (callFunc 57 args).run Tryz.prog w = .ok (.enter 57 args) w := enters Tryz.func57 (by kernel_rfl) rfl -- hailer/hailerref01.cut
theorem en58 : ∀ args w, (callFunc 58 args).run Tryz.prog w = .ok (.enter 58 args) w := enters Tryz.func58 (by kernel_rfl) rfl -- hailer/hailerref01.four
theorem en59 : ∀ args w, (callFunc 59 args).run Tryz.prog w = .ok (.enter 59 args) w := enters Tryz.func59 (by kernel_rfl) rfl -- hailer/hailerref01.round
theorem en60 : ∀ args w, (callFunc 60 args).run Tryz.prog w = .ok (.enter 60 args) w := enters Tryz.func60 (by kernel_rfl) rfl -- hailer/rec.Put
theorem en61 : ∀ args w, (callFunc 61 args).run Tryz.prog w = .ok (.enter 61 args) w := enters Tryz.func61 (by kernel_rfl) rfl -- hailer/sha.Sum256
theorem en62 : ∀ args w, (callFunc 62 args).run Tryz.prog w = .ok (.enter 62 args) w := enters Tryz.func62 (by kernel_rfl) rfl -- (*hailer/merge.Book).bucket$1
theorem en63 : ∀ args w, (callFunc 63 args).run Tryz.prog w = .ok (.enter 63 args) w := enters Tryz.func63 (by kernel_rfl) rfl -- hailer/hailerref09.OfId
theorem en64 : ∀ args w, (callFunc 64 args).run Tryz.prog w = .ok (.enter 64 args) w := enters Tryz.func64 (by kernel_rfl) rfl -- hailer/hailerref09.Of
theorem en65 : ∀ args w, (callFunc 65 args).run Tryz.prog w = .ok (.enter 65 args) w := enters Tryz.func65 (by kernel_rfl) rfl -- hailer/rec.All$1
theorem en66 : ∀ args w, (callFunc 66 args).run Tryz.prog w = .ok (.enter 66 args) w := enters Tryz.func66 (by kernel_rfl) rfl -- hailer/rec.Take
theorem en67 : ∀ args w, (callFunc 67 args).run Tryz.prog w = .ok (.enter 67 args) w := enters Tryz.func67 (by kernel_rfl) rfl -- hailer/hailerref36.rank
theorem en68 : ∀ args w, (callFunc 68 args).run Tryz.prog w = .ok (.enter 68 args) w := enters Tryz.func68 (by kernel_rfl) rfl -- hailer/hailerref36.less
theorem en69 : ∀ args w, (callFunc 69 args).run Tryz.prog w = .ok (.enter 69 args) w := enters Tryz.func69 (by kernel_rfl) rfl -- cmp.isNaN[int]
theorem en70 : ∀ args w, (callFunc 70 args).run Tryz.prog w = .ok (.enter 70 args) w := enters Tryz.func70 (by kernel_rfl) rfl -- cmp.isNaN[uint64]
theorem en72 : ∀ args w, (callFunc 72 args).run Tryz.prog w = .ok (.enter 72 args) w := enters Tryz.func72 (by kernel_rfl) rfl -- slices.BinarySearchFunc[[]hailer/api.Record,hailer/api.Record,hailer/api.Record]
theorem en73 : ∀ args w, (callFunc 73 args).run Tryz.prog w = .ok (.enter 73 args) w := enters Tryz.func73 (by kernel_rfl) rfl -- slices.Insert[[]hailer/api.Record,hailer/api.Record]
theorem en74 : ∀ args w, (callFunc 74 args).run Tryz.prog w = .ok (.enter 74 args) w := enters Tryz.func74 (by kernel_rfl) rfl -- slices.IndexFunc[[]hailer/api.Record,hailer/api.Record]
theorem en75 : ∀ args w, (callFunc 75 args).run Tryz.prog w = .ok (.enter 75 args) w := enters Tryz.func75 (by kernel_rfl) rfl -- (*hailer/merge.Book).place$1
theorem en76 : ∀ args w, (callFunc 76 args).run Tryz.prog w = .ok (.enter 76 args) w := enters Tryz.func76 (by kernel_rfl) rfl -- hailer/hailerref01.mix
theorem en77 : ∀ args w, (callFunc 77 args).run Tryz.prog w = .ok (.enter 77 args) w := enters Tryz.func77 (by kernel_rfl) rfl -- hailer/wire.NewOut
theorem en78 : ∀ args w, (callFunc 78 args).run Tryz.prog w = .ok (.enter 78 args) w := enters Tryz.func78 (by kernel_rfl) rfl -- (*hailer/wire.Out).Fixed
theorem en79 : ∀ args w, (callFunc 79 args).run Tryz.prog w = .ok (.enter 79 args) w := enters Tryz.func79 (by kernel_rfl) rfl -- (*hailer/wire.Out).U8
theorem en80 : ∀ args w, (callFunc 80 args).run Tryz.prog w = .ok (.enter 80 args) w := enters Tryz.func80 (by kernel_rfl) rfl -- (*hailer/wire.Out).Flag
theorem en81 : ∀ args w, (callFunc 81 args).run Tryz.prog w = .ok (.enter 81 args) w := enters Tryz.func81 (by kernel_rfl) rfl -- (*hailer/wire.Out).U64
theorem en82 : ∀ args w, (callFunc 82 args).run Tryz.prog w = .ok (.enter 82 args) w := enters Tryz.func82 (by kernel_rfl) rfl -- (*hailer/wire.Out).Bytes
theorem en83 : ∀ args w, (callFunc 83 args).run Tryz.prog w = .ok (.enter 83 args) w := enters Tryz.func83 (by kernel_rfl) rfl -- hailer/sha.narrow
theorem en84 : ∀ args w, (callFunc 84 args).run Tryz.prog w = .ok (.enter 84 args) w := enters Tryz.func84 (by kernel_rfl) rfl -- (*hailer/sha.machine[uint32]).sum
theorem en85 : ∀ args w, (callFunc 85 args).run Tryz.prog w = .ok (.enter 85 args) w := enters Tryz.func85 (by kernel_rfl) rfl -- hailer/wire.NewIn
theorem en86 : ∀ args w, (callFunc 86 args).run Tryz.prog w = .ok (.enter 86 args) w := enters Tryz.func86 (by kernel_rfl) rfl -- (*hailer/wire.In).Fixed
theorem en87 : ∀ args w, (callFunc 87 args).run Tryz.prog w = .ok (.enter 87 args) w := enters Tryz.func87 (by kernel_rfl) rfl -- (*hailer/wire.In).U8
theorem en88 : ∀ args w, (callFunc 88 args).run Tryz.prog w = .ok (.enter 88 args) w := enters Tryz.func88 (by kernel_rfl) rfl -- (*hailer/wire.In).Flag
theorem en89 : ∀ args w, (callFunc 89 args).run Tryz.prog w = .ok (.enter 89 args) w := enters Tryz.func89 (by kernel_rfl) rfl -- (*hailer/wire.In).U64
theorem en90 : ∀ args w, (callFunc 90 args).run Tryz.prog w = .ok (.enter 90 args) w := enters Tryz.func90 (by kernel_rfl) rfl -- (*hailer/wire.In).End
theorem en93 : ∀ args w, (callFunc 93 args).run Tryz.prog w = .ok (.enter 93 args) w := enters Tryz.func93 (by kernel_rfl) rfl -- hailer/hailerref01.turn
theorem en94 : ∀ args w, (callFunc 94 args).run Tryz.prog w = .ok (.enter 94 args) w := enters Tryz.func94 (by kernel_rfl) rfl -- (*hailer/wire.Out).put
theorem en95 : ∀ args w, (callFunc 95 args).run Tryz.prog w = .ok (.enter 95 args) w := enters Tryz.func95 (by kernel_rfl) rfl -- hailer/wire.number[uint64]
theorem en96 : ∀ args w, (callFunc 96 args).run Tryz.prog w = .ok (.enter 96 args) w := enters Tryz.func96 (by kernel_rfl) rfl -- hailer/sha.upper
theorem en97 : ∀ args w, (callFunc 97 args).run Tryz.prog w = .ok (.enter 97 args) w := enters Tryz.func97 (by kernel_rfl) rfl -- hailer/sha.first
theorem en98 : ∀ args w, (callFunc 98 args).run Tryz.prog w = .ok (.enter 98 args) w := enters Tryz.func98 (by kernel_rfl) rfl -- hailer/sha.constants
theorem en99 : ∀ args w, (callFunc 99 args).run Tryz.prog w = .ok (.enter 99 args) w := enters Tryz.func99 (by kernel_rfl) rfl -- (*hailer/sha.machine[uint32]).block
theorem en100 : ∀ args w, (callFunc 100 args).run Tryz.prog w = .ok (.enter 100 args) w := enters Tryz.func100 (by kernel_rfl) rfl -- (*hailer/wire.In).take
theorem en101 : ∀ args w, (callFunc 101 args).run Tryz.prog w = .ok (.enter 101 args) w := enters Tryz.func101 (by kernel_rfl) rfl -- (*hailer/wire.In).next
theorem en103 : ∀ args w, (callFunc 103 args).run Tryz.prog w = .ok (.enter 103 args) w := enters Tryz.func103 (by kernel_rfl) rfl -- (*hailer/sha.machine[uint32]).small
theorem en104 : ∀ args w, (callFunc 104 args).run Tryz.prog w = .ok (.enter 104 args) w := enters Tryz.func104 (by kernel_rfl) rfl -- (*hailer/sha.machine[uint32]).big
theorem en106 : ∀ args w, (callFunc 106 args).run Tryz.prog w = .ok (.enter 106 args) w := enters Tryz.func106 (by kernel_rfl) rfl -- (*hailer/sha.machine[uint32]).turn
end Go.Proofs.YtmcdbjbkkejbbaaGreat
