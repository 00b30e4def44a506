/- Facts on the types and functions of the program, each closed. -/
import Derived.Test.YtklbmgfpnafdlaaProg
import Derived.Test.YtklbmgfpnafdlaaLibW
namespace Go.Proofs.Ytklbmgfpnafdlaa
open Go Go.RowKit
theorem mixed : Try.prog.follows .mixedOrders = true := by kernel_rfl
theorem on1 : isOne Try.prog 1 = true := by kernel_rfl
theorem sz1 : (Try.prog.info? 1).map (·.size) = some 1 := by kernel_rfl
theorem zr1 : (Try.prog.info? 1).map (·.zero) = some (some (.nilFunc : Value)) := by kernel_rfl
theorem zs1 : (Try.prog.info? 1).map (fun i => (i.zero, i.size)) = some (some (.nilFunc : Value), 1) := by kernel_rfl
theorem un2 : Try.prog.underlying 2 = some (.int .i64) := Try.underlying2
theorem on2 : isOne Try.prog 2 = true := by kernel_rfl
theorem sz2 : (Try.prog.info? 2).map (·.size) = some 1 := by kernel_rfl
theorem zr2 : (Try.prog.info? 2).map (·.zero) = some (some (.int .i64 0 : Value)) := by kernel_rfl
theorem zs2 : (Try.prog.info? 2).map (fun i => (i.zero, i.size)) = some (some (.int .i64 0 : Value), 1) := by kernel_rfl
theorem un3 : Try.prog.underlying 3 = some (.int .i64) := Try.underlying3
theorem on3 : isOne Try.prog 3 = true := by kernel_rfl
theorem sz3 : (Try.prog.info? 3).map (·.size) = some 1 := by kernel_rfl
theorem zr3 : (Try.prog.info? 3).map (·.zero) = some (some (.int .i64 0 : Value)) := by kernel_rfl
theorem zs3 : (Try.prog.info? 3).map (fun i => (i.zero, i.size)) = some (some (.int .i64 0 : Value), 1) := by kernel_rfl
theorem un4 : Try.prog.underlying 4 = some (.bool) := Try.underlying4
theorem on4 : isOne Try.prog 4 = true := by kernel_rfl
theorem sz4 : (Try.prog.info? 4).map (·.size) = some 1 := by kernel_rfl
theorem zr4 : (Try.prog.info? 4).map (·.zero) = some (some (.bool false : Value)) := by kernel_rfl
theorem zs4 : (Try.prog.info? 4).map (fun i => (i.zero, i.size)) = some (some (.bool false : Value), 1) := by kernel_rfl
theorem un5 : Try.prog.underlying 5 = some (.int .u8) := Try.underlying5
theorem on5 : isOne Try.prog 5 = true := by kernel_rfl
theorem sz5 : (Try.prog.info? 5).map (·.size) = some 1 := by kernel_rfl
theorem zr5 : (Try.prog.info? 5).map (·.zero) = some (some (.int .u8 0 : Value)) := by kernel_rfl
theorem zs5 : (Try.prog.info? 5).map (fun i => (i.zero, i.size)) = some (some (.int .u8 0 : Value), 1) := by kernel_rfl
theorem un6 : Try.prog.underlying 6 = some (.int .u8) := Try.underlying6
theorem on6 : isOne Try.prog 6 = true := by kernel_rfl
theorem sz6 : (Try.prog.info? 6).map (·.size) = some 1 := by kernel_rfl
theorem zr6 : (Try.prog.info? 6).map (·.zero) = some (some (.int .u8 0 : Value)) := by kernel_rfl
theorem zs6 : (Try.prog.info? 6).map (fun i => (i.zero, i.size)) = some (some (.int .u8 0 : Value), 1) := by kernel_rfl
theorem ag7 : aggB Try.prog 7 4 = true := by kernel_rfl
theorem sz7 : (Try.prog.info? 7).map (·.size) = some 4 := by kernel_rfl
theorem fo7_0 : fieldOff Try.prog 7 0 = some 0 := by kernel_rfl
theorem fo7_1 : fieldOff Try.prog 7 1 = some 1 := by kernel_rfl
theorem fo7_2 : fieldOff Try.prog 7 2 = some 2 := by kernel_rfl
theorem fo7_3 : fieldOff Try.prog 7 3 = some 3 := by kernel_rfl
theorem zr7 : (Try.prog.info? 7).map (·.zero) = some (some (.agg #[.int .i64 0, .int .i64 0, .bool false, .int .u8 0] : Value)) := by kernel_rfl
theorem zs7 : (Try.prog.info? 7).map (fun i => (i.zero, i.size)) = some (some (.agg #[.int .i64 0, .int .i64 0, .bool false, .int .u8 0] : Value), 4) := by kernel_rfl
theorem ag8 : aggB Try.prog 8 4 = true := by kernel_rfl
theorem sz8 : (Try.prog.info? 8).map (·.size) = some 4 := by kernel_rfl
theorem fo8_0 : fieldOff Try.prog 8 0 = some 0 := by kernel_rfl
theorem fo8_1 : fieldOff Try.prog 8 1 = some 1 := by kernel_rfl
theorem fo8_2 : fieldOff Try.prog 8 2 = some 2 := by kernel_rfl
theorem fo8_3 : fieldOff Try.prog 8 3 = some 3 := by kernel_rfl
theorem zr8 : (Try.prog.info? 8).map (·.zero) = some (some (.agg #[.int .i64 0, .int .i64 0, .bool false, .int .u8 0] : Value)) := by kernel_rfl
theorem zs8 : (Try.prog.info? 8).map (fun i => (i.zero, i.size)) = some (some (.agg #[.int .i64 0, .int .i64 0, .bool false, .int .u8 0] : Value), 4) := by kernel_rfl
theorem un9 : Try.prog.underlying 9 = some (.string) := Try.underlying9
theorem on9 : isOne Try.prog 9 = true := by kernel_rfl
theorem sz9 : (Try.prog.info? 9).map (·.size) = some 1 := by kernel_rfl
theorem zr9 : (Try.prog.info? 9).map (·.zero) = some (some (.string ByteArray.empty : Value)) := by kernel_rfl
theorem zs9 : (Try.prog.info? 9).map (fun i => (i.zero, i.size)) = some (some (.string ByteArray.empty : Value), 1) := by kernel_rfl
theorem un10 : Try.prog.underlying 10 = some (.string) := Try.underlying10
theorem on10 : isOne Try.prog 10 = true := by kernel_rfl
theorem sz10 : (Try.prog.info? 10).map (·.size) = some 1 := by kernel_rfl
theorem zr10 : (Try.prog.info? 10).map (·.zero) = some (some (.string ByteArray.empty : Value)) := by kernel_rfl
theorem zs10 : (Try.prog.info? 10).map (fun i => (i.zero, i.size)) = some (some (.string ByteArray.empty : Value), 1) := by kernel_rfl
theorem un11 : Try.prog.underlying 11 = some (.string) := Try.underlying11
theorem on11 : isOne Try.prog 11 = true := by kernel_rfl
theorem sz11 : (Try.prog.info? 11).map (·.size) = some 1 := by kernel_rfl
theorem zr11 : (Try.prog.info? 11).map (·.zero) = some (some (.string ByteArray.empty : Value)) := by kernel_rfl
theorem zs11 : (Try.prog.info? 11).map (fun i => (i.zero, i.size)) = some (some (.string ByteArray.empty : Value), 1) := by kernel_rfl
theorem un12 : Try.prog.underlying 12 = some (.int .u64) := Try.underlying12
theorem on12 : isOne Try.prog 12 = true := by kernel_rfl
theorem sz12 : (Try.prog.info? 12).map (·.size) = some 1 := by kernel_rfl
theorem zr12 : (Try.prog.info? 12).map (·.zero) = some (some (.int .u64 0 : Value)) := by kernel_rfl
theorem zs12 : (Try.prog.info? 12).map (fun i => (i.zero, i.size)) = some (some (.int .u64 0 : Value), 1) := by kernel_rfl
theorem ag13 : aggB Try.prog 13 2 = true := by kernel_rfl
theorem sz13 : (Try.prog.info? 13).map (·.size) = some 2 := by kernel_rfl
theorem fo13_0 : fieldOff Try.prog 13 0 = some 0 := by kernel_rfl
theorem fo13_1 : fieldOff Try.prog 13 1 = some 1 := by kernel_rfl
theorem zr13 : (Try.prog.info? 13).map (·.zero) = some (some (.agg #[.string ByteArray.empty, .int .u64 0] : Value)) := by kernel_rfl
theorem zs13 : (Try.prog.info? 13).map (fun i => (i.zero, i.size)) = some (some (.agg #[.string ByteArray.empty, .int .u64 0] : Value), 2) := by kernel_rfl
theorem ag14 : aggB Try.prog 14 2 = true := by kernel_rfl
theorem sz14 : (Try.prog.info? 14).map (·.size) = some 2 := by kernel_rfl
theorem fo14_0 : fieldOff Try.prog 14 0 = some 0 := by kernel_rfl
theorem fo14_1 : fieldOff Try.prog 14 1 = some 1 := by kernel_rfl
theorem zr14 : (Try.prog.info? 14).map (·.zero) = some (some (.agg #[.string ByteArray.empty, .int .u64 0] : Value)) := by kernel_rfl
theorem zs14 : (Try.prog.info? 14).map (fun i => (i.zero, i.size)) = some (some (.agg #[.string ByteArray.empty, .int .u64 0] : Value), 2) := by kernel_rfl
theorem un15 : Try.prog.underlying 15 = some (.pointer 156) := Try.underlying15
theorem on15 : isOne Try.prog 15 = true := by kernel_rfl
theorem sz15 : (Try.prog.info? 15).map (·.size) = some 1 := by kernel_rfl
theorem zr15 : (Try.prog.info? 15).map (·.zero) = some (some (.pointer none : Value)) := by kernel_rfl
theorem zs15 : (Try.prog.info? 15).map (fun i => (i.zero, i.size)) = some (some (.pointer none : Value), 1) := by kernel_rfl
theorem un16 : Try.prog.underlying 16 = some (.pointer 159) := Try.underlying16
theorem on16 : isOne Try.prog 16 = true := by kernel_rfl
theorem sz16 : (Try.prog.info? 16).map (·.size) = some 1 := by kernel_rfl
theorem zr16 : (Try.prog.info? 16).map (·.zero) = some (some (.pointer none : Value)) := by kernel_rfl
theorem zs16 : (Try.prog.info? 16).map (fun i => (i.zero, i.size)) = some (some (.pointer none : Value), 1) := by kernel_rfl
theorem un17 : Try.prog.underlying 17 = some (.pointer 168) := Try.underlying17
theorem on17 : isOne Try.prog 17 = true := by kernel_rfl
theorem sz17 : (Try.prog.info? 17).map (·.size) = some 1 := by kernel_rfl
theorem zr17 : (Try.prog.info? 17).map (·.zero) = some (some (.pointer none : Value)) := by kernel_rfl
theorem zs17 : (Try.prog.info? 17).map (fun i => (i.zero, i.size)) = some (some (.pointer none : Value), 1) := by kernel_rfl
theorem ag18 : aggB Try.prog 18 1 = true := by kernel_rfl
theorem sz18 : (Try.prog.info? 18).map (·.size) = some 1 := by kernel_rfl
theorem fo18_0 : fieldOff Try.prog 18 0 = some 0 := by kernel_rfl
theorem zr18 : (Try.prog.info? 18).map (·.zero) = some (some (.agg #[.pointer none] : Value)) := by kernel_rfl
theorem zs18 : (Try.prog.info? 18).map (fun i => (i.zero, i.size)) = some (some (.agg #[.pointer none] : Value), 1) := by kernel_rfl
theorem ag19 : aggB Try.prog 19 1 = true := by kernel_rfl
theorem sz19 : (Try.prog.info? 19).map (·.size) = some 1 := by kernel_rfl
theorem fo19_0 : fieldOff Try.prog 19 0 = some 0 := by kernel_rfl
theorem zr19 : (Try.prog.info? 19).map (·.zero) = some (some (.agg #[.pointer none] : Value)) := by kernel_rfl
theorem zs19 : (Try.prog.info? 19).map (fun i => (i.zero, i.size)) = some (some (.agg #[.pointer none] : Value), 1) := by kernel_rfl
theorem un21 : Try.prog.underlying 21 = some (.int .i32) := Try.underlying21
theorem on21 : isOne Try.prog 21 = true := by kernel_rfl
theorem sz21 : (Try.prog.info? 21).map (·.size) = some 1 := by kernel_rfl
theorem zr21 : (Try.prog.info? 21).map (·.zero) = some (some (.int .i32 0 : Value)) := by kernel_rfl
theorem zs21 : (Try.prog.info? 21).map (fun i => (i.zero, i.size)) = some (some (.int .i32 0 : Value), 1) := by kernel_rfl
theorem un22 : Try.prog.underlying 22 = some (.int .u64) := Try.underlying22
theorem on22 : isOne Try.prog 22 = true := by kernel_rfl
theorem sz22 : (Try.prog.info? 22).map (·.size) = some 1 := by kernel_rfl
theorem zr22 : (Try.prog.info? 22).map (·.zero) = some (some (.int .u64 0 : Value)) := by kernel_rfl
theorem zs22 : (Try.prog.info? 22).map (fun i => (i.zero, i.size)) = some (some (.int .u64 0 : Value), 1) := by kernel_rfl
theorem un23 : Try.prog.underlying 23 = some (.slice 37) := Try.underlying23
theorem on23 : isOne Try.prog 23 = true := by kernel_rfl
theorem sz23 : (Try.prog.info? 23).map (·.size) = some 1 := by kernel_rfl
theorem zr23 : (Try.prog.info? 23).map (·.zero) = some (some (.slice none 0 0 : Value)) := by kernel_rfl
theorem zs23 : (Try.prog.info? 23).map (fun i => (i.zero, i.size)) = some (some (.slice none 0 0 : Value), 1) := by kernel_rfl
theorem on24 : isOne Try.prog 24 = true := by kernel_rfl
theorem sz24 : (Try.prog.info? 24).map (·.size) = some 1 := by kernel_rfl
theorem zr24 : (Try.prog.info? 24).map (·.zero) = some (some (.nilFunc : Value)) := by kernel_rfl
theorem zs24 : (Try.prog.info? 24).map (fun i => (i.zero, i.size)) = some (some (.nilFunc : Value), 1) := by kernel_rfl
theorem un25 : Try.prog.underlying 25 = some (.pointer 97) := Try.underlying25
theorem on25 : isOne Try.prog 25 = true := by kernel_rfl
theorem sz25 : (Try.prog.info? 25).map (·.size) = some 1 := by kernel_rfl
theorem zr25 : (Try.prog.info? 25).map (·.zero) = some (some (.pointer none : Value)) := by kernel_rfl
theorem zs25 : (Try.prog.info? 25).map (fun i => (i.zero, i.size)) = some (some (.pointer none : Value), 1) := by kernel_rfl
theorem un26 : Try.prog.underlying 26 = some (.int .i64) := Try.underlying26
theorem on26 : isOne Try.prog 26 = true := by kernel_rfl
theorem sz26 : (Try.prog.info? 26).map (·.size) = some 1 := by kernel_rfl
theorem zr26 : (Try.prog.info? 26).map (·.zero) = some (some (.int .i64 0 : Value)) := by kernel_rfl
theorem zs26 : (Try.prog.info? 26).map (fun i => (i.zero, i.size)) = some (some (.int .i64 0 : Value), 1) := by kernel_rfl
theorem on28 : isOne Try.prog 28 = true := by kernel_rfl
theorem sz28 : (Try.prog.info? 28).map (·.size) = some 1 := by kernel_rfl
theorem zr28 : (Try.prog.info? 28).map (·.zero) = some (some (.nilFunc : Value)) := by kernel_rfl
theorem zs28 : (Try.prog.info? 28).map (fun i => (i.zero, i.size)) = some (some (.nilFunc : Value), 1) := by kernel_rfl
theorem un29 : Try.prog.underlying 29 = some (.int .u32) := Try.underlying29
theorem on29 : isOne Try.prog 29 = true := by kernel_rfl
theorem sz29 : (Try.prog.info? 29).map (·.size) = some 1 := by kernel_rfl
theorem zr29 : (Try.prog.info? 29).map (·.zero) = some (some (.int .u32 0 : Value)) := by kernel_rfl
theorem zs29 : (Try.prog.info? 29).map (fun i => (i.zero, i.size)) = some (some (.int .u32 0 : Value), 1) := by kernel_rfl
theorem on30 : isOne Try.prog 30 = true := by kernel_rfl
theorem sz30 : (Try.prog.info? 30).map (·.size) = some 1 := by kernel_rfl
theorem zr30 : (Try.prog.info? 30).map (·.zero) = some (some (.nilFunc : Value)) := by kernel_rfl
theorem zs30 : (Try.prog.info? 30).map (fun i => (i.zero, i.size)) = some (some (.nilFunc : Value), 1) := by kernel_rfl
theorem un31 : Try.prog.underlying 31 = some (.pointer 35) := Try.underlying31
theorem on31 : isOne Try.prog 31 = true := by kernel_rfl
theorem sz31 : (Try.prog.info? 31).map (·.size) = some 1 := by kernel_rfl
theorem zr31 : (Try.prog.info? 31).map (·.zero) = some (some (.pointer none : Value)) := by kernel_rfl
theorem zs31 : (Try.prog.info? 31).map (fun i => (i.zero, i.size)) = some (some (.pointer none : Value), 1) := by kernel_rfl
theorem un32 : Try.prog.underlying 32 = some (.slice 46) := Try.underlying32
theorem on32 : isOne Try.prog 32 = true := by kernel_rfl
theorem sz32 : (Try.prog.info? 32).map (·.size) = some 1 := by kernel_rfl
theorem zr32 : (Try.prog.info? 32).map (·.zero) = some (some (.slice none 0 0 : Value)) := by kernel_rfl
theorem zs32 : (Try.prog.info? 32).map (fun i => (i.zero, i.size)) = some (some (.slice none 0 0 : Value), 1) := by kernel_rfl
theorem un33 : Try.prog.underlying 33 = some (.array 6 22) := Try.underlying33
theorem ag33 : aggB Try.prog 33 6 = true := by kernel_rfl
theorem sz33 : (Try.prog.info? 33).map (·.size) = some 6 := by kernel_rfl
theorem zr33 : (Try.prog.info? 33).map (·.zero) = some (some (.agg #[.int .u64 0, .int .u64 0, .int .u64 0, .int .u64 0, .int .u64 0, .int .u64 0] : Value)) := by kernel_rfl
theorem zs33 : (Try.prog.info? 33).map (fun i => (i.zero, i.size)) = some (some (.agg #[.int .u64 0, .int .u64 0, .int .u64 0, .int .u64 0, .int .u64 0, .int .u64 0] : Value), 6) := by kernel_rfl
theorem ag34 : aggB Try.prog 34 14 = true := by kernel_rfl
theorem sz34 : (Try.prog.info? 34).map (·.size) = some 14 := by kernel_rfl
theorem fo34_0 : fieldOff Try.prog 34 0 = some 0 := by kernel_rfl
theorem fo34_1 : fieldOff Try.prog 34 1 = some 1 := by kernel_rfl
theorem fo34_2 : fieldOff Try.prog 34 2 = some 2 := by kernel_rfl
theorem fo34_3 : fieldOff Try.prog 34 3 = some 3 := by kernel_rfl
theorem fo34_4 : fieldOff Try.prog 34 4 = some 4 := by kernel_rfl
theorem fo34_5 : fieldOff Try.prog 34 5 = some 5 := by kernel_rfl
theorem fo34_6 : fieldOff Try.prog 34 6 = some 6 := by kernel_rfl
theorem fo34_7 : fieldOff Try.prog 34 7 = some 7 := by kernel_rfl
theorem fo34_8 : fieldOff Try.prog 34 8 = some 8 := by kernel_rfl
theorem zr34 : (Try.prog.info? 34).map (·.zero) = some (some (.agg #[.int .u64 0, .int .u64 0, .bool false, .bool false, .int .u64 0, .int .u64 0, .int .u64 0, .slice none 0 0, .int .u64 0, .int .u64 0, .int .u64 0, .int .u64 0, .int .u64 0, .int .u64 0] : Value)) := by kernel_rfl
theorem zs34 : (Try.prog.info? 34).map (fun i => (i.zero, i.size)) = some (some (.agg #[.int .u64 0, .int .u64 0, .bool false, .bool false, .int .u64 0, .int .u64 0, .int .u64 0, .slice none 0 0, .int .u64 0, .int .u64 0, .int .u64 0, .int .u64 0, .int .u64 0, .int .u64 0] : Value), 14) := by kernel_rfl
theorem ag35 : aggB Try.prog 35 14 = true := by kernel_rfl
theorem sz35 : (Try.prog.info? 35).map (·.size) = some 14 := by kernel_rfl
theorem fo35_0 : fieldOff Try.prog 35 0 = some 0 := by kernel_rfl
theorem fo35_1 : fieldOff Try.prog 35 1 = some 1 := by kernel_rfl
theorem fo35_2 : fieldOff Try.prog 35 2 = some 2 := by kernel_rfl
theorem fo35_3 : fieldOff Try.prog 35 3 = some 3 := by kernel_rfl
theorem fo35_4 : fieldOff Try.prog 35 4 = some 4 := by kernel_rfl
theorem fo35_5 : fieldOff Try.prog 35 5 = some 5 := by kernel_rfl
theorem fo35_6 : fieldOff Try.prog 35 6 = some 6 := by kernel_rfl
theorem fo35_7 : fieldOff Try.prog 35 7 = some 7 := by kernel_rfl
theorem fo35_8 : fieldOff Try.prog 35 8 = some 8 := by kernel_rfl
theorem zr35 : (Try.prog.info? 35).map (·.zero) = some (some (.agg #[.int .u64 0, .int .u64 0, .bool false, .bool false, .int .u64 0, .int .u64 0, .int .u64 0, .slice none 0 0, .int .u64 0, .int .u64 0, .int .u64 0, .int .u64 0, .int .u64 0, .int .u64 0] : Value)) := by kernel_rfl
theorem zs35 : (Try.prog.info? 35).map (fun i => (i.zero, i.size)) = some (some (.agg #[.int .u64 0, .int .u64 0, .bool false, .bool false, .int .u64 0, .int .u64 0, .int .u64 0, .slice none 0 0, .int .u64 0, .int .u64 0, .int .u64 0, .int .u64 0, .int .u64 0, .int .u64 0] : Value), 14) := by kernel_rfl
theorem ag36 : aggB Try.prog 36 5 = true := by kernel_rfl
theorem sz36 : (Try.prog.info? 36).map (·.size) = some 5 := by kernel_rfl
theorem fo36_0 : fieldOff Try.prog 36 0 = some 0 := by kernel_rfl
theorem fo36_1 : fieldOff Try.prog 36 1 = some 1 := by kernel_rfl
theorem fo36_2 : fieldOff Try.prog 36 2 = some 2 := by kernel_rfl
theorem fo36_3 : fieldOff Try.prog 36 3 = some 3 := by kernel_rfl
theorem fo36_4 : fieldOff Try.prog 36 4 = some 4 := by kernel_rfl
theorem zr36 : (Try.prog.info? 36).map (·.zero) = some (some (.agg #[.int .u8 0, .int .u64 0, .int .u64 0, .int .u32 0, .int .i64 0] : Value)) := by kernel_rfl
theorem zs36 : (Try.prog.info? 36).map (fun i => (i.zero, i.size)) = some (some (.agg #[.int .u8 0, .int .u64 0, .int .u64 0, .int .u32 0, .int .i64 0] : Value), 5) := by kernel_rfl
theorem ag37 : aggB Try.prog 37 5 = true := by kernel_rfl
theorem sz37 : (Try.prog.info? 37).map (·.size) = some 5 := by kernel_rfl
theorem fo37_0 : fieldOff Try.prog 37 0 = some 0 := by kernel_rfl
theorem fo37_1 : fieldOff Try.prog 37 1 = some 1 := by kernel_rfl
theorem fo37_2 : fieldOff Try.prog 37 2 = some 2 := by kernel_rfl
theorem fo37_3 : fieldOff Try.prog 37 3 = some 3 := by kernel_rfl
theorem fo37_4 : fieldOff Try.prog 37 4 = some 4 := by kernel_rfl
theorem zr37 : (Try.prog.info? 37).map (·.zero) = some (some (.agg #[.int .u8 0, .int .u64 0, .int .u64 0, .int .u32 0, .int .i64 0] : Value)) := by kernel_rfl
theorem zs37 : (Try.prog.info? 37).map (fun i => (i.zero, i.size)) = some (some (.agg #[.int .u8 0, .int .u64 0, .int .u64 0, .int .u32 0, .int .i64 0] : Value), 5) := by kernel_rfl
theorem on38 : isOne Try.prog 38 = true := by kernel_rfl
theorem sz38 : (Try.prog.info? 38).map (·.size) = some 1 := by kernel_rfl
theorem zr38 : (Try.prog.info? 38).map (·.zero) = some (some (.nilFunc : Value)) := by kernel_rfl
theorem zs38 : (Try.prog.info? 38).map (fun i => (i.zero, i.size)) = some (some (.nilFunc : Value), 1) := by kernel_rfl
theorem on40 : isOne Try.prog 40 = true := by kernel_rfl
theorem sz40 : (Try.prog.info? 40).map (·.size) = some 1 := by kernel_rfl
theorem zr40 : (Try.prog.info? 40).map (·.zero) = some (some (.nilFunc : Value)) := by kernel_rfl
theorem zs40 : (Try.prog.info? 40).map (fun i => (i.zero, i.size)) = some (some (.nilFunc : Value), 1) := by kernel_rfl
theorem on41 : isOne Try.prog 41 = true := by kernel_rfl
theorem sz41 : (Try.prog.info? 41).map (·.size) = some 1 := by kernel_rfl
theorem zr41 : (Try.prog.info? 41).map (·.zero) = some (some (.nilFunc : Value)) := by kernel_rfl
theorem zs41 : (Try.prog.info? 41).map (fun i => (i.zero, i.size)) = some (some (.nilFunc : Value), 1) := by kernel_rfl
theorem on42 : isOne Try.prog 42 = true := by kernel_rfl
theorem sz42 : (Try.prog.info? 42).map (·.size) = some 1 := by kernel_rfl
theorem zr42 : (Try.prog.info? 42).map (·.zero) = some (some (.nilFunc : Value)) := by kernel_rfl
theorem zs42 : (Try.prog.info? 42).map (fun i => (i.zero, i.size)) = some (some (.nilFunc : Value), 1) := by kernel_rfl
theorem on43 : isOne Try.prog 43 = true := by kernel_rfl
theorem sz43 : (Try.prog.info? 43).map (·.size) = some 1 := by kernel_rfl
theorem zr43 : (Try.prog.info? 43).map (·.zero) = some (some (.nilFunc : Value)) := by kernel_rfl
theorem zs43 : (Try.prog.info? 43).map (fun i => (i.zero, i.size)) = some (some (.nilFunc : Value), 1) := by kernel_rfl
theorem on44 : isOne Try.prog 44 = true := by kernel_rfl
theorem sz44 : (Try.prog.info? 44).map (·.size) = some 1 := by kernel_rfl
theorem zr44 : (Try.prog.info? 44).map (·.zero) = some (some (.nilFunc : Value)) := by kernel_rfl
theorem zs44 : (Try.prog.info? 44).map (fun i => (i.zero, i.size)) = some (some (.nilFunc : Value), 1) := by kernel_rfl
theorem ag45 : aggB Try.prog 45 2 = true := by kernel_rfl
theorem sz45 : (Try.prog.info? 45).map (·.size) = some 2 := by kernel_rfl
theorem fo45_0 : fieldOff Try.prog 45 0 = some 0 := by kernel_rfl
theorem fo45_1 : fieldOff Try.prog 45 1 = some 1 := by kernel_rfl
theorem zr45 : (Try.prog.info? 45).map (·.zero) = some (some (.agg #[.int .u64 0, .int .u32 0] : Value)) := by kernel_rfl
theorem zs45 : (Try.prog.info? 45).map (fun i => (i.zero, i.size)) = some (some (.agg #[.int .u64 0, .int .u32 0] : Value), 2) := by kernel_rfl
theorem ag46 : aggB Try.prog 46 2 = true := by kernel_rfl
theorem sz46 : (Try.prog.info? 46).map (·.size) = some 2 := by kernel_rfl
theorem fo46_0 : fieldOff Try.prog 46 0 = some 0 := by kernel_rfl
theorem fo46_1 : fieldOff Try.prog 46 1 = some 1 := by kernel_rfl
theorem zr46 : (Try.prog.info? 46).map (·.zero) = some (some (.agg #[.int .u64 0, .int .u32 0] : Value)) := by kernel_rfl
theorem zs46 : (Try.prog.info? 46).map (fun i => (i.zero, i.size)) = some (some (.agg #[.int .u64 0, .int .u32 0] : Value), 2) := by kernel_rfl
theorem on48 : isOne Try.prog 48 = true := by kernel_rfl
theorem sz48 : (Try.prog.info? 48).map (·.size) = some 1 := by kernel_rfl
theorem zr48 : (Try.prog.info? 48).map (·.zero) = some (some (.nilFunc : Value)) := by kernel_rfl
theorem zs48 : (Try.prog.info? 48).map (fun i => (i.zero, i.size)) = some (some (.nilFunc : Value), 1) := by kernel_rfl
theorem on49 : isOne Try.prog 49 = true := by kernel_rfl
theorem sz49 : (Try.prog.info? 49).map (·.size) = some 1 := by kernel_rfl
theorem zr49 : (Try.prog.info? 49).map (·.zero) = some (some (.nilFunc : Value)) := by kernel_rfl
theorem zs49 : (Try.prog.info? 49).map (fun i => (i.zero, i.size)) = some (some (.nilFunc : Value), 1) := by kernel_rfl
theorem on50 : isOne Try.prog 50 = true := by kernel_rfl
theorem sz50 : (Try.prog.info? 50).map (·.size) = some 1 := by kernel_rfl
theorem zr50 : (Try.prog.info? 50).map (·.zero) = some (some (.nilFunc : Value)) := by kernel_rfl
theorem zs50 : (Try.prog.info? 50).map (fun i => (i.zero, i.size)) = some (some (.nilFunc : Value), 1) := by kernel_rfl
theorem on51 : isOne Try.prog 51 = true := by kernel_rfl
theorem sz51 : (Try.prog.info? 51).map (·.size) = some 1 := by kernel_rfl
theorem zr51 : (Try.prog.info? 51).map (·.zero) = some (some (.nilFunc : Value)) := by kernel_rfl
theorem zs51 : (Try.prog.info? 51).map (fun i => (i.zero, i.size)) = some (some (.nilFunc : Value), 1) := by kernel_rfl
theorem un52 : Try.prog.underlying 52 = some (.slice 5) := Try.underlying52
theorem on52 : isOne Try.prog 52 = true := by kernel_rfl
theorem sz52 : (Try.prog.info? 52).map (·.size) = some 1 := by kernel_rfl
theorem zr52 : (Try.prog.info? 52).map (·.zero) = some (some (.slice none 0 0 : Value)) := by kernel_rfl
theorem zs52 : (Try.prog.info? 52).map (fun i => (i.zero, i.size)) = some (some (.slice none 0 0 : Value), 1) := by kernel_rfl
theorem un53 : Try.prog.underlying 53 = some (.pointer 111) := Try.underlying53
theorem on53 : isOne Try.prog 53 = true := by kernel_rfl
theorem sz53 : (Try.prog.info? 53).map (·.size) = some 1 := by kernel_rfl
theorem zr53 : (Try.prog.info? 53).map (·.zero) = some (some (.pointer none : Value)) := by kernel_rfl
theorem zs53 : (Try.prog.info? 53).map (fun i => (i.zero, i.size)) = some (some (.pointer none : Value), 1) := by kernel_rfl
theorem on55 : isOne Try.prog 55 = true := by kernel_rfl
theorem sz55 : (Try.prog.info? 55).map (·.size) = some 1 := by kernel_rfl
theorem zr55 : (Try.prog.info? 55).map (·.zero) = some (some (.nilFunc : Value)) := by kernel_rfl
theorem zs55 : (Try.prog.info? 55).map (fun i => (i.zero, i.size)) = some (some (.nilFunc : Value), 1) := by kernel_rfl
theorem un56 : Try.prog.underlying 56 = some (.map 22 58) := Try.underlying56
theorem on56 : isOne Try.prog 56 = true := by kernel_rfl
theorem sz56 : (Try.prog.info? 56).map (·.size) = some 1 := by kernel_rfl
theorem zr56 : (Try.prog.info? 56).map (·.zero) = some (some (.map none : Value)) := by kernel_rfl
theorem zs56 : (Try.prog.info? 56).map (fun i => (i.zero, i.size)) = some (some (.map none : Value), 1) := by kernel_rfl
theorem on57 : isOne Try.prog 57 = true := by kernel_rfl
theorem sz57 : (Try.prog.info? 57).map (·.size) = some 1 := by kernel_rfl
theorem zr57 : (Try.prog.info? 57).map (·.zero) = some (some (.nilFunc : Value)) := by kernel_rfl
theorem zs57 : (Try.prog.info? 57).map (fun i => (i.zero, i.size)) = some (some (.nilFunc : Value), 1) := by kernel_rfl
theorem sz58 : (Try.prog.info? 58).map (·.size) = some 0 := by kernel_rfl
theorem zr58 : (Try.prog.info? 58).map (·.zero) = some (some (.agg #[] : Value)) := by kernel_rfl
theorem zs58 : (Try.prog.info? 58).map (fun i => (i.zero, i.size)) = some (some (.agg #[] : Value), 0) := by kernel_rfl
theorem on61 : isOne Try.prog 61 = true := by kernel_rfl
theorem sz61 : (Try.prog.info? 61).map (·.size) = some 1 := by kernel_rfl
theorem zr61 : (Try.prog.info? 61).map (·.zero) = some (some (.nilFunc : Value)) := by kernel_rfl
theorem zs61 : (Try.prog.info? 61).map (fun i => (i.zero, i.size)) = some (some (.nilFunc : Value), 1) := by kernel_rfl
theorem on62 : isOne Try.prog 62 = true := by kernel_rfl
theorem sz62 : (Try.prog.info? 62).map (·.size) = some 1 := by kernel_rfl
theorem zr62 : (Try.prog.info? 62).map (·.zero) = some (some (.nilFunc : Value)) := by kernel_rfl
theorem zs62 : (Try.prog.info? 62).map (fun i => (i.zero, i.size)) = some (some (.nilFunc : Value), 1) := by kernel_rfl
theorem un63 : Try.prog.underlying 63 = some (.map 22 29) := Try.underlying63
theorem on63 : isOne Try.prog 63 = true := by kernel_rfl
theorem sz63 : (Try.prog.info? 63).map (·.size) = some 1 := by kernel_rfl
theorem zr63 : (Try.prog.info? 63).map (·.zero) = some (some (.map none : Value)) := by kernel_rfl
theorem zs63 : (Try.prog.info? 63).map (fun i => (i.zero, i.size)) = some (some (.map none : Value), 1) := by kernel_rfl
theorem ag65 : aggB Try.prog 65 6 = true := by kernel_rfl
theorem sz65 : (Try.prog.info? 65).map (·.size) = some 6 := by kernel_rfl
theorem fo65_0 : fieldOff Try.prog 65 0 = some 0 := by kernel_rfl
theorem fo65_1 : fieldOff Try.prog 65 1 = some 1 := by kernel_rfl
theorem fo65_2 : fieldOff Try.prog 65 2 = some 2 := by kernel_rfl
theorem fo65_3 : fieldOff Try.prog 65 3 = some 3 := by kernel_rfl
theorem fo65_4 : fieldOff Try.prog 65 4 = some 4 := by kernel_rfl
theorem fo65_5 : fieldOff Try.prog 65 5 = some 5 := by kernel_rfl
theorem zr65 : (Try.prog.info? 65).map (·.zero) = some (some (.agg #[.int .u64 0, .int .u64 0, .int .u64 0, .int .u64 0, .int .u64 0, .int .u64 0] : Value)) := by kernel_rfl
theorem zs65 : (Try.prog.info? 65).map (fun i => (i.zero, i.size)) = some (some (.agg #[.int .u64 0, .int .u64 0, .int .u64 0, .int .u64 0, .int .u64 0, .int .u64 0] : Value), 6) := by kernel_rfl
theorem ag66 : aggB Try.prog 66 6 = true := by kernel_rfl
theorem sz66 : (Try.prog.info? 66).map (·.size) = some 6 := by kernel_rfl
theorem fo66_0 : fieldOff Try.prog 66 0 = some 0 := by kernel_rfl
theorem fo66_1 : fieldOff Try.prog 66 1 = some 1 := by kernel_rfl
theorem fo66_2 : fieldOff Try.prog 66 2 = some 2 := by kernel_rfl
theorem fo66_3 : fieldOff Try.prog 66 3 = some 3 := by kernel_rfl
theorem fo66_4 : fieldOff Try.prog 66 4 = some 4 := by kernel_rfl
theorem fo66_5 : fieldOff Try.prog 66 5 = some 5 := by kernel_rfl
theorem zr66 : (Try.prog.info? 66).map (·.zero) = some (some (.agg #[.int .u64 0, .int .u64 0, .int .u64 0, .int .u64 0, .int .u64 0, .int .u64 0] : Value)) := by kernel_rfl
theorem zs66 : (Try.prog.info? 66).map (fun i => (i.zero, i.size)) = some (some (.agg #[.int .u64 0, .int .u64 0, .int .u64 0, .int .u64 0, .int .u64 0, .int .u64 0] : Value), 6) := by kernel_rfl
theorem on67 : isOne Try.prog 67 = true := by kernel_rfl
theorem sz67 : (Try.prog.info? 67).map (·.size) = some 1 := by kernel_rfl
theorem zr67 : (Try.prog.info? 67).map (·.zero) = some (some (.nilFunc : Value)) := by kernel_rfl
theorem zs67 : (Try.prog.info? 67).map (fun i => (i.zero, i.size)) = some (some (.nilFunc : Value), 1) := by kernel_rfl
theorem un68 : Try.prog.underlying 68 = some (.slice 73) := Try.underlying68
theorem on68 : isOne Try.prog 68 = true := by kernel_rfl
theorem sz68 : (Try.prog.info? 68).map (·.size) = some 1 := by kernel_rfl
theorem zr68 : (Try.prog.info? 68).map (·.zero) = some (some (.slice none 0 0 : Value)) := by kernel_rfl
theorem zs68 : (Try.prog.info? 68).map (fun i => (i.zero, i.size)) = some (some (.slice none 0 0 : Value), 1) := by kernel_rfl
theorem un69 : Try.prog.underlying 69 = some (.pointer 115) := Try.underlying69
theorem on69 : isOne Try.prog 69 = true := by kernel_rfl
theorem sz69 : (Try.prog.info? 69).map (·.size) = some 1 := by kernel_rfl
theorem zr69 : (Try.prog.info? 69).map (·.zero) = some (some (.pointer none : Value)) := by kernel_rfl
theorem zs69 : (Try.prog.info? 69).map (fun i => (i.zero, i.size)) = some (some (.pointer none : Value), 1) := by kernel_rfl
theorem on71 : isOne Try.prog 71 = true := by kernel_rfl
theorem sz71 : (Try.prog.info? 71).map (·.size) = some 1 := by kernel_rfl
theorem zr71 : (Try.prog.info? 71).map (·.zero) = some (some (.nilFunc : Value)) := by kernel_rfl
theorem zs71 : (Try.prog.info? 71).map (fun i => (i.zero, i.size)) = some (some (.nilFunc : Value), 1) := by kernel_rfl
theorem on72 : isOne Try.prog 72 = true := by kernel_rfl
theorem sz72 : (Try.prog.info? 72).map (·.size) = some 1 := by kernel_rfl
theorem zr72 : (Try.prog.info? 72).map (·.zero) = some (some (.nilFunc : Value)) := by kernel_rfl
theorem zs72 : (Try.prog.info? 72).map (fun i => (i.zero, i.size)) = some (some (.nilFunc : Value), 1) := by kernel_rfl
theorem un73 : Try.prog.underlying 73 = some (.int .u16) := Try.underlying73
theorem on73 : isOne Try.prog 73 = true := by kernel_rfl
theorem sz73 : (Try.prog.info? 73).map (·.size) = some 1 := by kernel_rfl
theorem zr73 : (Try.prog.info? 73).map (·.zero) = some (some (.int .u16 0 : Value)) := by kernel_rfl
theorem zs73 : (Try.prog.info? 73).map (fun i => (i.zero, i.size)) = some (some (.int .u16 0 : Value), 1) := by kernel_rfl
theorem on74 : isOne Try.prog 74 = true := by kernel_rfl
theorem sz74 : (Try.prog.info? 74).map (·.size) = some 1 := by kernel_rfl
theorem zr74 : (Try.prog.info? 74).map (·.zero) = some (some (.nilFunc : Value)) := by kernel_rfl
theorem zs74 : (Try.prog.info? 74).map (fun i => (i.zero, i.size)) = some (some (.nilFunc : Value), 1) := by kernel_rfl
theorem on75 : isOne Try.prog 75 = true := by kernel_rfl
theorem sz75 : (Try.prog.info? 75).map (·.size) = some 1 := by kernel_rfl
theorem zr75 : (Try.prog.info? 75).map (·.zero) = some (some (.nilFunc : Value)) := by kernel_rfl
theorem zs75 : (Try.prog.info? 75).map (fun i => (i.zero, i.size)) = some (some (.nilFunc : Value), 1) := by kernel_rfl
theorem on76 : isOne Try.prog 76 = true := by kernel_rfl
theorem sz76 : (Try.prog.info? 76).map (·.size) = some 1 := by kernel_rfl
theorem zr76 : (Try.prog.info? 76).map (·.zero) = some (some (.nilFunc : Value)) := by kernel_rfl
theorem zs76 : (Try.prog.info? 76).map (fun i => (i.zero, i.size)) = some (some (.nilFunc : Value), 1) := by kernel_rfl
theorem on78 : isOne Try.prog 78 = true := by kernel_rfl
theorem sz78 : (Try.prog.info? 78).map (·.size) = some 1 := by kernel_rfl
theorem zr78 : (Try.prog.info? 78).map (·.zero) = some (some (.nilFunc : Value)) := by kernel_rfl
theorem zs78 : (Try.prog.info? 78).map (fun i => (i.zero, i.size)) = some (some (.nilFunc : Value), 1) := by kernel_rfl
theorem on79 : isOne Try.prog 79 = true := by kernel_rfl
theorem sz79 : (Try.prog.info? 79).map (·.size) = some 1 := by kernel_rfl
theorem zr79 : (Try.prog.info? 79).map (·.zero) = some (some (.nilFunc : Value)) := by kernel_rfl
theorem zs79 : (Try.prog.info? 79).map (fun i => (i.zero, i.size)) = some (some (.nilFunc : Value), 1) := by kernel_rfl
theorem un80 : Try.prog.underlying 80 = some (.pointer 118) := Try.underlying80
theorem on80 : isOne Try.prog 80 = true := by kernel_rfl
theorem sz80 : (Try.prog.info? 80).map (·.size) = some 1 := by kernel_rfl
theorem zr80 : (Try.prog.info? 80).map (·.zero) = some (some (.pointer none : Value)) := by kernel_rfl
theorem zs80 : (Try.prog.info? 80).map (fun i => (i.zero, i.size)) = some (some (.pointer none : Value), 1) := by kernel_rfl
theorem on82 : isOne Try.prog 82 = true := by kernel_rfl
theorem sz82 : (Try.prog.info? 82).map (·.size) = some 1 := by kernel_rfl
theorem zr82 : (Try.prog.info? 82).map (·.zero) = some (some (.nilFunc : Value)) := by kernel_rfl
theorem zs82 : (Try.prog.info? 82).map (fun i => (i.zero, i.size)) = some (some (.nilFunc : Value), 1) := by kernel_rfl
theorem on83 : isOne Try.prog 83 = true := by kernel_rfl
theorem sz83 : (Try.prog.info? 83).map (·.size) = some 1 := by kernel_rfl
theorem zr83 : (Try.prog.info? 83).map (·.zero) = some (some (.nilFunc : Value)) := by kernel_rfl
theorem zs83 : (Try.prog.info? 83).map (fun i => (i.zero, i.size)) = some (some (.nilFunc : Value), 1) := by kernel_rfl
theorem on85 : isOne Try.prog 85 = true := by kernel_rfl
theorem sz85 : (Try.prog.info? 85).map (·.size) = some 1 := by kernel_rfl
theorem zr85 : (Try.prog.info? 85).map (·.zero) = some (some (.nilFunc : Value)) := by kernel_rfl
theorem zs85 : (Try.prog.info? 85).map (fun i => (i.zero, i.size)) = some (some (.nilFunc : Value), 1) := by kernel_rfl
theorem un86 : Try.prog.underlying 86 = some (.pointer 122) := Try.underlying86
theorem on86 : isOne Try.prog 86 = true := by kernel_rfl
theorem sz86 : (Try.prog.info? 86).map (·.size) = some 1 := by kernel_rfl
theorem zr86 : (Try.prog.info? 86).map (·.zero) = some (some (.pointer none : Value)) := by kernel_rfl
theorem zs86 : (Try.prog.info? 86).map (fun i => (i.zero, i.size)) = some (some (.pointer none : Value), 1) := by kernel_rfl
theorem on88 : isOne Try.prog 88 = true := by kernel_rfl
theorem sz88 : (Try.prog.info? 88).map (·.size) = some 1 := by kernel_rfl
theorem zr88 : (Try.prog.info? 88).map (·.zero) = some (some (.nilFunc : Value)) := by kernel_rfl
theorem zs88 : (Try.prog.info? 88).map (fun i => (i.zero, i.size)) = some (some (.nilFunc : Value), 1) := by kernel_rfl
theorem on90 : isOne Try.prog 90 = true := by kernel_rfl
theorem sz90 : (Try.prog.info? 90).map (·.size) = some 1 := by kernel_rfl
theorem zr90 : (Try.prog.info? 90).map (·.zero) = some (some (.nilFunc : Value)) := by kernel_rfl
theorem zs90 : (Try.prog.info? 90).map (fun i => (i.zero, i.size)) = some (some (.nilFunc : Value), 1) := by kernel_rfl
theorem on91 : isOne Try.prog 91 = true := by kernel_rfl
theorem sz91 : (Try.prog.info? 91).map (·.size) = some 1 := by kernel_rfl
theorem zr91 : (Try.prog.info? 91).map (·.zero) = some (some (.nilFunc : Value)) := by kernel_rfl
theorem zs91 : (Try.prog.info? 91).map (fun i => (i.zero, i.size)) = some (some (.nilFunc : Value), 1) := by kernel_rfl
theorem on92 : isOne Try.prog 92 = true := by kernel_rfl
theorem sz92 : (Try.prog.info? 92).map (·.size) = some 1 := by kernel_rfl
theorem zr92 : (Try.prog.info? 92).map (·.zero) = some (some (.nilFunc : Value)) := by kernel_rfl
theorem zs92 : (Try.prog.info? 92).map (fun i => (i.zero, i.size)) = some (some (.nilFunc : Value), 1) := by kernel_rfl
theorem on93 : isOne Try.prog 93 = true := by kernel_rfl
theorem sz93 : (Try.prog.info? 93).map (·.size) = some 1 := by kernel_rfl
theorem zr93 : (Try.prog.info? 93).map (·.zero) = some (some (.nilFunc : Value)) := by kernel_rfl
theorem zs93 : (Try.prog.info? 93).map (fun i => (i.zero, i.size)) = some (some (.nilFunc : Value), 1) := by kernel_rfl
theorem on94 : isOne Try.prog 94 = true := by kernel_rfl
theorem sz94 : (Try.prog.info? 94).map (·.size) = some 1 := by kernel_rfl
theorem zr94 : (Try.prog.info? 94).map (·.zero) = some (some (.nilFunc : Value)) := by kernel_rfl
theorem zs94 : (Try.prog.info? 94).map (fun i => (i.zero, i.size)) = some (some (.nilFunc : Value), 1) := by kernel_rfl
theorem on95 : isOne Try.prog 95 = true := by kernel_rfl
theorem sz95 : (Try.prog.info? 95).map (·.size) = some 1 := by kernel_rfl
theorem zr95 : (Try.prog.info? 95).map (·.zero) = some (some (.nilFunc : Value)) := by kernel_rfl
theorem zs95 : (Try.prog.info? 95).map (fun i => (i.zero, i.size)) = some (some (.nilFunc : Value), 1) := by kernel_rfl
theorem ag96 : aggB Try.prog 96 14 = true := by kernel_rfl
theorem sz96 : (Try.prog.info? 96).map (·.size) = some 14 := by kernel_rfl
theorem fo96_0 : fieldOff Try.prog 96 0 = some 0 := by kernel_rfl
theorem fo96_1 : fieldOff Try.prog 96 1 = some 1 := by kernel_rfl
theorem fo96_2 : fieldOff Try.prog 96 2 = some 2 := by kernel_rfl
theorem fo96_3 : fieldOff Try.prog 96 3 = some 3 := by kernel_rfl
theorem fo96_4 : fieldOff Try.prog 96 4 = some 4 := by kernel_rfl
theorem fo96_5 : fieldOff Try.prog 96 5 = some 5 := by kernel_rfl
theorem fo96_6 : fieldOff Try.prog 96 6 = some 6 := by kernel_rfl
theorem fo96_7 : fieldOff Try.prog 96 7 = some 7 := by kernel_rfl
theorem fo96_8 : fieldOff Try.prog 96 8 = some 8 := by kernel_rfl
theorem zr96 : (Try.prog.info? 96).map (·.zero) = some (some (.agg #[.int .u64 0, .int .u64 0, .bool false, .bool false, .int .u64 0, .int .u64 0, .int .u64 0, .map none, .int .u64 0, .int .u64 0, .int .u64 0, .int .u64 0, .int .u64 0, .int .u64 0] : Value)) := by kernel_rfl
theorem zs96 : (Try.prog.info? 96).map (fun i => (i.zero, i.size)) = some (some (.agg #[.int .u64 0, .int .u64 0, .bool false, .bool false, .int .u64 0, .int .u64 0, .int .u64 0, .map none, .int .u64 0, .int .u64 0, .int .u64 0, .int .u64 0, .int .u64 0, .int .u64 0] : Value), 14) := by kernel_rfl
theorem ag97 : aggB Try.prog 97 14 = true := by kernel_rfl
theorem sz97 : (Try.prog.info? 97).map (·.size) = some 14 := by kernel_rfl
theorem fo97_0 : fieldOff Try.prog 97 0 = some 0 := by kernel_rfl
theorem fo97_1 : fieldOff Try.prog 97 1 = some 1 := by kernel_rfl
theorem fo97_2 : fieldOff Try.prog 97 2 = some 2 := by kernel_rfl
theorem fo97_3 : fieldOff Try.prog 97 3 = some 3 := by kernel_rfl
theorem fo97_4 : fieldOff Try.prog 97 4 = some 4 := by kernel_rfl
theorem fo97_5 : fieldOff Try.prog 97 5 = some 5 := by kernel_rfl
theorem fo97_6 : fieldOff Try.prog 97 6 = some 6 := by kernel_rfl
theorem fo97_7 : fieldOff Try.prog 97 7 = some 7 := by kernel_rfl
theorem fo97_8 : fieldOff Try.prog 97 8 = some 8 := by kernel_rfl
theorem zr97 : (Try.prog.info? 97).map (·.zero) = some (some (.agg #[.int .u64 0, .int .u64 0, .bool false, .bool false, .int .u64 0, .int .u64 0, .int .u64 0, .map none, .int .u64 0, .int .u64 0, .int .u64 0, .int .u64 0, .int .u64 0, .int .u64 0] : Value)) := by kernel_rfl
theorem zs97 : (Try.prog.info? 97).map (fun i => (i.zero, i.size)) = some (some (.agg #[.int .u64 0, .int .u64 0, .bool false, .bool false, .int .u64 0, .int .u64 0, .int .u64 0, .map none, .int .u64 0, .int .u64 0, .int .u64 0, .int .u64 0, .int .u64 0, .int .u64 0] : Value), 14) := by kernel_rfl
theorem on98 : isOne Try.prog 98 = true := by kernel_rfl
theorem sz98 : (Try.prog.info? 98).map (·.size) = some 1 := by kernel_rfl
theorem zr98 : (Try.prog.info? 98).map (·.zero) = some (some (.nilFunc : Value)) := by kernel_rfl
theorem zs98 : (Try.prog.info? 98).map (fun i => (i.zero, i.size)) = some (some (.nilFunc : Value), 1) := by kernel_rfl
theorem on99 : isOne Try.prog 99 = true := by kernel_rfl
theorem sz99 : (Try.prog.info? 99).map (·.size) = some 1 := by kernel_rfl
theorem zr99 : (Try.prog.info? 99).map (·.zero) = some (some (.nilFunc : Value)) := by kernel_rfl
theorem zs99 : (Try.prog.info? 99).map (fun i => (i.zero, i.size)) = some (some (.nilFunc : Value), 1) := by kernel_rfl
theorem on100 : isOne Try.prog 100 = true := by kernel_rfl
theorem sz100 : (Try.prog.info? 100).map (·.size) = some 1 := by kernel_rfl
theorem zr100 : (Try.prog.info? 100).map (·.zero) = some (some (.nilFunc : Value)) := by kernel_rfl
theorem zs100 : (Try.prog.info? 100).map (fun i => (i.zero, i.size)) = some (some (.nilFunc : Value), 1) := by kernel_rfl
theorem on101 : isOne Try.prog 101 = true := by kernel_rfl
theorem sz101 : (Try.prog.info? 101).map (·.size) = some 1 := by kernel_rfl
theorem zr101 : (Try.prog.info? 101).map (·.zero) = some (some (.nilFunc : Value)) := by kernel_rfl
theorem zs101 : (Try.prog.info? 101).map (fun i => (i.zero, i.size)) = some (some (.nilFunc : Value), 1) := by kernel_rfl
theorem on102 : isOne Try.prog 102 = true := by kernel_rfl
theorem sz102 : (Try.prog.info? 102).map (·.size) = some 1 := by kernel_rfl
theorem zr102 : (Try.prog.info? 102).map (·.zero) = some (some (.nilFunc : Value)) := by kernel_rfl
theorem zs102 : (Try.prog.info? 102).map (fun i => (i.zero, i.size)) = some (some (.nilFunc : Value), 1) := by kernel_rfl
theorem on103 : isOne Try.prog 103 = true := by kernel_rfl
theorem sz103 : (Try.prog.info? 103).map (·.size) = some 1 := by kernel_rfl
theorem zr103 : (Try.prog.info? 103).map (·.zero) = some (some (.nilFunc : Value)) := by kernel_rfl
theorem zs103 : (Try.prog.info? 103).map (fun i => (i.zero, i.size)) = some (some (.nilFunc : Value), 1) := by kernel_rfl
theorem on104 : isOne Try.prog 104 = true := by kernel_rfl
theorem sz104 : (Try.prog.info? 104).map (·.size) = some 1 := by kernel_rfl
theorem zr104 : (Try.prog.info? 104).map (·.zero) = some (some (.nilFunc : Value)) := by kernel_rfl
theorem zs104 : (Try.prog.info? 104).map (fun i => (i.zero, i.size)) = some (some (.nilFunc : Value), 1) := by kernel_rfl
theorem un105 : Try.prog.underlying 105 = some (.slice 22) := Try.underlying105
theorem on105 : isOne Try.prog 105 = true := by kernel_rfl
theorem sz105 : (Try.prog.info? 105).map (·.size) = some 1 := by kernel_rfl
theorem zr105 : (Try.prog.info? 105).map (·.zero) = some (some (.slice none 0 0 : Value)) := by kernel_rfl
theorem zs105 : (Try.prog.info? 105).map (fun i => (i.zero, i.size)) = some (some (.slice none 0 0 : Value), 1) := by kernel_rfl
theorem on106 : isOne Try.prog 106 = true := by kernel_rfl
theorem sz106 : (Try.prog.info? 106).map (·.size) = some 1 := by kernel_rfl
theorem zr106 : (Try.prog.info? 106).map (·.zero) = some (some (.nilFunc : Value)) := by kernel_rfl
theorem zs106 : (Try.prog.info? 106).map (fun i => (i.zero, i.size)) = some (some (.nilFunc : Value), 1) := by kernel_rfl
theorem on107 : isOne Try.prog 107 = true := by kernel_rfl
theorem sz107 : (Try.prog.info? 107).map (·.size) = some 1 := by kernel_rfl
theorem zr107 : (Try.prog.info? 107).map (·.zero) = some (some (.nilFunc : Value)) := by kernel_rfl
theorem zs107 : (Try.prog.info? 107).map (fun i => (i.zero, i.size)) = some (some (.nilFunc : Value), 1) := by kernel_rfl
theorem on108 : isOne Try.prog 108 = true := by kernel_rfl
theorem sz108 : (Try.prog.info? 108).map (·.size) = some 1 := by kernel_rfl
theorem zr108 : (Try.prog.info? 108).map (·.zero) = some (some (.nilFunc : Value)) := by kernel_rfl
theorem zs108 : (Try.prog.info? 108).map (fun i => (i.zero, i.size)) = some (some (.nilFunc : Value), 1) := by kernel_rfl
theorem un109 : Try.prog.underlying 109 = some (.map 22 5) := Try.underlying109
theorem on109 : isOne Try.prog 109 = true := by kernel_rfl
theorem sz109 : (Try.prog.info? 109).map (·.size) = some 1 := by kernel_rfl
theorem zr109 : (Try.prog.info? 109).map (·.zero) = some (some (.map none : Value)) := by kernel_rfl
theorem zs109 : (Try.prog.info? 109).map (fun i => (i.zero, i.size)) = some (some (.map none : Value), 1) := by kernel_rfl
theorem ag110 : aggB Try.prog 110 14 = true := by kernel_rfl
theorem sz110 : (Try.prog.info? 110).map (·.size) = some 14 := by kernel_rfl
theorem fo110_0 : fieldOff Try.prog 110 0 = some 0 := by kernel_rfl
theorem fo110_1 : fieldOff Try.prog 110 1 = some 1 := by kernel_rfl
theorem fo110_2 : fieldOff Try.prog 110 2 = some 2 := by kernel_rfl
theorem fo110_3 : fieldOff Try.prog 110 3 = some 3 := by kernel_rfl
theorem fo110_4 : fieldOff Try.prog 110 4 = some 4 := by kernel_rfl
theorem fo110_5 : fieldOff Try.prog 110 5 = some 5 := by kernel_rfl
theorem fo110_6 : fieldOff Try.prog 110 6 = some 6 := by kernel_rfl
theorem fo110_7 : fieldOff Try.prog 110 7 = some 7 := by kernel_rfl
theorem fo110_8 : fieldOff Try.prog 110 8 = some 8 := by kernel_rfl
theorem zr110 : (Try.prog.info? 110).map (·.zero) = some (some (.agg #[.int .u64 0, .int .u64 0, .bool false, .bool false, .int .u64 0, .int .u64 0, .int .u64 0, .map none, .int .u64 0, .int .u64 0, .int .u64 0, .int .u64 0, .int .u64 0, .int .u64 0] : Value)) := by kernel_rfl
theorem zs110 : (Try.prog.info? 110).map (fun i => (i.zero, i.size)) = some (some (.agg #[.int .u64 0, .int .u64 0, .bool false, .bool false, .int .u64 0, .int .u64 0, .int .u64 0, .map none, .int .u64 0, .int .u64 0, .int .u64 0, .int .u64 0, .int .u64 0, .int .u64 0] : Value), 14) := by kernel_rfl
theorem ag111 : aggB Try.prog 111 14 = true := by kernel_rfl
theorem sz111 : (Try.prog.info? 111).map (·.size) = some 14 := by kernel_rfl
theorem fo111_0 : fieldOff Try.prog 111 0 = some 0 := by kernel_rfl
theorem fo111_1 : fieldOff Try.prog 111 1 = some 1 := by kernel_rfl
theorem fo111_2 : fieldOff Try.prog 111 2 = some 2 := by kernel_rfl
theorem fo111_3 : fieldOff Try.prog 111 3 = some 3 := by kernel_rfl
theorem fo111_4 : fieldOff Try.prog 111 4 = some 4 := by kernel_rfl
theorem fo111_5 : fieldOff Try.prog 111 5 = some 5 := by kernel_rfl
theorem fo111_6 : fieldOff Try.prog 111 6 = some 6 := by kernel_rfl
theorem fo111_7 : fieldOff Try.prog 111 7 = some 7 := by kernel_rfl
theorem fo111_8 : fieldOff Try.prog 111 8 = some 8 := by kernel_rfl
theorem zr111 : (Try.prog.info? 111).map (·.zero) = some (some (.agg #[.int .u64 0, .int .u64 0, .bool false, .bool false, .int .u64 0, .int .u64 0, .int .u64 0, .map none, .int .u64 0, .int .u64 0, .int .u64 0, .int .u64 0, .int .u64 0, .int .u64 0] : Value)) := by kernel_rfl
theorem zs111 : (Try.prog.info? 111).map (fun i => (i.zero, i.size)) = some (some (.agg #[.int .u64 0, .int .u64 0, .bool false, .bool false, .int .u64 0, .int .u64 0, .int .u64 0, .map none, .int .u64 0, .int .u64 0, .int .u64 0, .int .u64 0, .int .u64 0, .int .u64 0] : Value), 14) := by kernel_rfl
theorem un113 : Try.prog.underlying 113 = some (.map 22 22) := Try.underlying113
theorem on113 : isOne Try.prog 113 = true := by kernel_rfl
theorem sz113 : (Try.prog.info? 113).map (·.size) = some 1 := by kernel_rfl
theorem zr113 : (Try.prog.info? 113).map (·.zero) = some (some (.map none : Value)) := by kernel_rfl
theorem zs113 : (Try.prog.info? 113).map (fun i => (i.zero, i.size)) = some (some (.map none : Value), 1) := by kernel_rfl
theorem ag114 : aggB Try.prog 114 14 = true := by kernel_rfl
theorem sz114 : (Try.prog.info? 114).map (·.size) = some 14 := by kernel_rfl
theorem fo114_0 : fieldOff Try.prog 114 0 = some 0 := by kernel_rfl
theorem fo114_1 : fieldOff Try.prog 114 1 = some 1 := by kernel_rfl
theorem fo114_2 : fieldOff Try.prog 114 2 = some 2 := by kernel_rfl
theorem fo114_3 : fieldOff Try.prog 114 3 = some 3 := by kernel_rfl
theorem fo114_4 : fieldOff Try.prog 114 4 = some 4 := by kernel_rfl
theorem fo114_5 : fieldOff Try.prog 114 5 = some 5 := by kernel_rfl
theorem fo114_6 : fieldOff Try.prog 114 6 = some 6 := by kernel_rfl
theorem fo114_7 : fieldOff Try.prog 114 7 = some 7 := by kernel_rfl
theorem fo114_8 : fieldOff Try.prog 114 8 = some 8 := by kernel_rfl
theorem zr114 : (Try.prog.info? 114).map (·.zero) = some (some (.agg #[.int .u64 0, .int .u64 0, .bool false, .bool false, .int .u64 0, .int .u64 0, .int .u64 0, .map none, .int .u64 0, .int .u64 0, .int .u64 0, .int .u64 0, .int .u64 0, .int .u64 0] : Value)) := by kernel_rfl
theorem zs114 : (Try.prog.info? 114).map (fun i => (i.zero, i.size)) = some (some (.agg #[.int .u64 0, .int .u64 0, .bool false, .bool false, .int .u64 0, .int .u64 0, .int .u64 0, .map none, .int .u64 0, .int .u64 0, .int .u64 0, .int .u64 0, .int .u64 0, .int .u64 0] : Value), 14) := by kernel_rfl
theorem ag115 : aggB Try.prog 115 14 = true := by kernel_rfl
theorem sz115 : (Try.prog.info? 115).map (·.size) = some 14 := by kernel_rfl
theorem fo115_0 : fieldOff Try.prog 115 0 = some 0 := by kernel_rfl
theorem fo115_1 : fieldOff Try.prog 115 1 = some 1 := by kernel_rfl
theorem fo115_2 : fieldOff Try.prog 115 2 = some 2 := by kernel_rfl
theorem fo115_3 : fieldOff Try.prog 115 3 = some 3 := by kernel_rfl
theorem fo115_4 : fieldOff Try.prog 115 4 = some 4 := by kernel_rfl
theorem fo115_5 : fieldOff Try.prog 115 5 = some 5 := by kernel_rfl
theorem fo115_6 : fieldOff Try.prog 115 6 = some 6 := by kernel_rfl
theorem fo115_7 : fieldOff Try.prog 115 7 = some 7 := by kernel_rfl
theorem fo115_8 : fieldOff Try.prog 115 8 = some 8 := by kernel_rfl
theorem zr115 : (Try.prog.info? 115).map (·.zero) = some (some (.agg #[.int .u64 0, .int .u64 0, .bool false, .bool false, .int .u64 0, .int .u64 0, .int .u64 0, .map none, .int .u64 0, .int .u64 0, .int .u64 0, .int .u64 0, .int .u64 0, .int .u64 0] : Value)) := by kernel_rfl
theorem zs115 : (Try.prog.info? 115).map (fun i => (i.zero, i.size)) = some (some (.agg #[.int .u64 0, .int .u64 0, .bool false, .bool false, .int .u64 0, .int .u64 0, .int .u64 0, .map none, .int .u64 0, .int .u64 0, .int .u64 0, .int .u64 0, .int .u64 0, .int .u64 0] : Value), 14) := by kernel_rfl
theorem un116 : Try.prog.underlying 116 = some (.map 22 9) := Try.underlying116
theorem on116 : isOne Try.prog 116 = true := by kernel_rfl
theorem sz116 : (Try.prog.info? 116).map (·.size) = some 1 := by kernel_rfl
theorem zr116 : (Try.prog.info? 116).map (·.zero) = some (some (.map none : Value)) := by kernel_rfl
theorem zs116 : (Try.prog.info? 116).map (fun i => (i.zero, i.size)) = some (some (.map none : Value), 1) := by kernel_rfl
theorem ag117 : aggB Try.prog 117 14 = true := by kernel_rfl
theorem sz117 : (Try.prog.info? 117).map (·.size) = some 14 := by kernel_rfl
theorem fo117_0 : fieldOff Try.prog 117 0 = some 0 := by kernel_rfl
theorem fo117_1 : fieldOff Try.prog 117 1 = some 1 := by kernel_rfl
theorem fo117_2 : fieldOff Try.prog 117 2 = some 2 := by kernel_rfl
theorem fo117_3 : fieldOff Try.prog 117 3 = some 3 := by kernel_rfl
theorem fo117_4 : fieldOff Try.prog 117 4 = some 4 := by kernel_rfl
theorem fo117_5 : fieldOff Try.prog 117 5 = some 5 := by kernel_rfl
theorem fo117_6 : fieldOff Try.prog 117 6 = some 6 := by kernel_rfl
theorem fo117_7 : fieldOff Try.prog 117 7 = some 7 := by kernel_rfl
theorem fo117_8 : fieldOff Try.prog 117 8 = some 8 := by kernel_rfl
theorem zr117 : (Try.prog.info? 117).map (·.zero) = some (some (.agg #[.int .u64 0, .int .u64 0, .bool false, .bool false, .int .u64 0, .int .u64 0, .int .u64 0, .map none, .int .u64 0, .int .u64 0, .int .u64 0, .int .u64 0, .int .u64 0, .int .u64 0] : Value)) := by kernel_rfl
theorem zs117 : (Try.prog.info? 117).map (fun i => (i.zero, i.size)) = some (some (.agg #[.int .u64 0, .int .u64 0, .bool false, .bool false, .int .u64 0, .int .u64 0, .int .u64 0, .map none, .int .u64 0, .int .u64 0, .int .u64 0, .int .u64 0, .int .u64 0, .int .u64 0] : Value), 14) := by kernel_rfl
theorem ag118 : aggB Try.prog 118 14 = true := by kernel_rfl
theorem sz118 : (Try.prog.info? 118).map (·.size) = some 14 := by kernel_rfl
theorem fo118_0 : fieldOff Try.prog 118 0 = some 0 := by kernel_rfl
theorem fo118_1 : fieldOff Try.prog 118 1 = some 1 := by kernel_rfl
theorem fo118_2 : fieldOff Try.prog 118 2 = some 2 := by kernel_rfl
theorem fo118_3 : fieldOff Try.prog 118 3 = some 3 := by kernel_rfl
theorem fo118_4 : fieldOff Try.prog 118 4 = some 4 := by kernel_rfl
theorem fo118_5 : fieldOff Try.prog 118 5 = some 5 := by kernel_rfl
theorem fo118_6 : fieldOff Try.prog 118 6 = some 6 := by kernel_rfl
theorem fo118_7 : fieldOff Try.prog 118 7 = some 7 := by kernel_rfl
theorem fo118_8 : fieldOff Try.prog 118 8 = some 8 := by kernel_rfl
theorem zr118 : (Try.prog.info? 118).map (·.zero) = some (some (.agg #[.int .u64 0, .int .u64 0, .bool false, .bool false, .int .u64 0, .int .u64 0, .int .u64 0, .map none, .int .u64 0, .int .u64 0, .int .u64 0, .int .u64 0, .int .u64 0, .int .u64 0] : Value)) := by kernel_rfl
theorem zs118 : (Try.prog.info? 118).map (fun i => (i.zero, i.size)) = some (some (.agg #[.int .u64 0, .int .u64 0, .bool false, .bool false, .int .u64 0, .int .u64 0, .int .u64 0, .map none, .int .u64 0, .int .u64 0, .int .u64 0, .int .u64 0, .int .u64 0, .int .u64 0] : Value), 14) := by kernel_rfl
theorem un120 : Try.prog.underlying 120 = some (.map 22 3) := Try.underlying120
theorem on120 : isOne Try.prog 120 = true := by kernel_rfl
theorem sz120 : (Try.prog.info? 120).map (·.size) = some 1 := by kernel_rfl
theorem zr120 : (Try.prog.info? 120).map (·.zero) = some (some (.map none : Value)) := by kernel_rfl
theorem zs120 : (Try.prog.info? 120).map (fun i => (i.zero, i.size)) = some (some (.map none : Value), 1) := by kernel_rfl
theorem ag121 : aggB Try.prog 121 14 = true := by kernel_rfl
theorem sz121 : (Try.prog.info? 121).map (·.size) = some 14 := by kernel_rfl
theorem fo121_0 : fieldOff Try.prog 121 0 = some 0 := by kernel_rfl
theorem fo121_1 : fieldOff Try.prog 121 1 = some 1 := by kernel_rfl
theorem fo121_2 : fieldOff Try.prog 121 2 = some 2 := by kernel_rfl
theorem fo121_3 : fieldOff Try.prog 121 3 = some 3 := by kernel_rfl
theorem fo121_4 : fieldOff Try.prog 121 4 = some 4 := by kernel_rfl
theorem fo121_5 : fieldOff Try.prog 121 5 = some 5 := by kernel_rfl
theorem fo121_6 : fieldOff Try.prog 121 6 = some 6 := by kernel_rfl
theorem fo121_7 : fieldOff Try.prog 121 7 = some 7 := by kernel_rfl
theorem fo121_8 : fieldOff Try.prog 121 8 = some 8 := by kernel_rfl
theorem zr121 : (Try.prog.info? 121).map (·.zero) = some (some (.agg #[.int .u64 0, .int .u64 0, .bool false, .bool false, .int .u64 0, .int .u64 0, .int .u64 0, .map none, .int .u64 0, .int .u64 0, .int .u64 0, .int .u64 0, .int .u64 0, .int .u64 0] : Value)) := by kernel_rfl
theorem zs121 : (Try.prog.info? 121).map (fun i => (i.zero, i.size)) = some (some (.agg #[.int .u64 0, .int .u64 0, .bool false, .bool false, .int .u64 0, .int .u64 0, .int .u64 0, .map none, .int .u64 0, .int .u64 0, .int .u64 0, .int .u64 0, .int .u64 0, .int .u64 0] : Value), 14) := by kernel_rfl
theorem ag122 : aggB Try.prog 122 14 = true := by kernel_rfl
theorem sz122 : (Try.prog.info? 122).map (·.size) = some 14 := by kernel_rfl
theorem fo122_0 : fieldOff Try.prog 122 0 = some 0 := by kernel_rfl
theorem fo122_1 : fieldOff Try.prog 122 1 = some 1 := by kernel_rfl
theorem fo122_2 : fieldOff Try.prog 122 2 = some 2 := by kernel_rfl
theorem fo122_3 : fieldOff Try.prog 122 3 = some 3 := by kernel_rfl
theorem fo122_4 : fieldOff Try.prog 122 4 = some 4 := by kernel_rfl
theorem fo122_5 : fieldOff Try.prog 122 5 = some 5 := by kernel_rfl
theorem fo122_6 : fieldOff Try.prog 122 6 = some 6 := by kernel_rfl
theorem fo122_7 : fieldOff Try.prog 122 7 = some 7 := by kernel_rfl
theorem fo122_8 : fieldOff Try.prog 122 8 = some 8 := by kernel_rfl
theorem zr122 : (Try.prog.info? 122).map (·.zero) = some (some (.agg #[.int .u64 0, .int .u64 0, .bool false, .bool false, .int .u64 0, .int .u64 0, .int .u64 0, .map none, .int .u64 0, .int .u64 0, .int .u64 0, .int .u64 0, .int .u64 0, .int .u64 0] : Value)) := by kernel_rfl
theorem zs122 : (Try.prog.info? 122).map (fun i => (i.zero, i.size)) = some (some (.agg #[.int .u64 0, .int .u64 0, .bool false, .bool false, .int .u64 0, .int .u64 0, .int .u64 0, .map none, .int .u64 0, .int .u64 0, .int .u64 0, .int .u64 0, .int .u64 0, .int .u64 0] : Value), 14) := by kernel_rfl
theorem on124 : isOne Try.prog 124 = true := by kernel_rfl
theorem sz124 : (Try.prog.info? 124).map (·.size) = some 1 := by kernel_rfl
theorem zr124 : (Try.prog.info? 124).map (·.zero) = some (some (.nilFunc : Value)) := by kernel_rfl
theorem zs124 : (Try.prog.info? 124).map (fun i => (i.zero, i.size)) = some (some (.nilFunc : Value), 1) := by kernel_rfl
theorem on125 : isOne Try.prog 125 = true := by kernel_rfl
theorem sz125 : (Try.prog.info? 125).map (·.size) = some 1 := by kernel_rfl
theorem zr125 : (Try.prog.info? 125).map (·.zero) = some (some (.nilFunc : Value)) := by kernel_rfl
theorem zs125 : (Try.prog.info? 125).map (fun i => (i.zero, i.size)) = some (some (.nilFunc : Value), 1) := by kernel_rfl
theorem on126 : isOne Try.prog 126 = true := by kernel_rfl
theorem sz126 : (Try.prog.info? 126).map (·.size) = some 1 := by kernel_rfl
theorem zr126 : (Try.prog.info? 126).map (·.zero) = some (some (.nilFunc : Value)) := by kernel_rfl
theorem zs126 : (Try.prog.info? 126).map (fun i => (i.zero, i.size)) = some (some (.nilFunc : Value), 1) := by kernel_rfl
theorem on127 : isOne Try.prog 127 = true := by kernel_rfl
theorem sz127 : (Try.prog.info? 127).map (·.size) = some 1 := by kernel_rfl
theorem zr127 : (Try.prog.info? 127).map (·.zero) = some (some (.nilFunc : Value)) := by kernel_rfl
theorem zs127 : (Try.prog.info? 127).map (fun i => (i.zero, i.size)) = some (some (.nilFunc : Value), 1) := by kernel_rfl
theorem on128 : isOne Try.prog 128 = true := by kernel_rfl
theorem sz128 : (Try.prog.info? 128).map (·.size) = some 1 := by kernel_rfl
theorem zr128 : (Try.prog.info? 128).map (·.zero) = some (some (.nilFunc : Value)) := by kernel_rfl
theorem zs128 : (Try.prog.info? 128).map (fun i => (i.zero, i.size)) = some (some (.nilFunc : Value), 1) := by kernel_rfl
theorem on129 : isOne Try.prog 129 = true := by kernel_rfl
theorem sz129 : (Try.prog.info? 129).map (·.size) = some 1 := by kernel_rfl
theorem zr129 : (Try.prog.info? 129).map (·.zero) = some (some (.nilFunc : Value)) := by kernel_rfl
theorem zs129 : (Try.prog.info? 129).map (fun i => (i.zero, i.size)) = some (some (.nilFunc : Value), 1) := by kernel_rfl
theorem on131 : isOne Try.prog 131 = true := by kernel_rfl
theorem sz131 : (Try.prog.info? 131).map (·.size) = some 1 := by kernel_rfl
theorem zr131 : (Try.prog.info? 131).map (·.zero) = some (some (.nilFunc : Value)) := by kernel_rfl
theorem zs131 : (Try.prog.info? 131).map (fun i => (i.zero, i.size)) = some (some (.nilFunc : Value), 1) := by kernel_rfl
theorem on132 : isOne Try.prog 132 = true := by kernel_rfl
theorem sz132 : (Try.prog.info? 132).map (·.size) = some 1 := by kernel_rfl
theorem zr132 : (Try.prog.info? 132).map (·.zero) = some (some (.nilFunc : Value)) := by kernel_rfl
theorem zs132 : (Try.prog.info? 132).map (fun i => (i.zero, i.size)) = some (some (.nilFunc : Value), 1) := by kernel_rfl
theorem on133 : isOne Try.prog 133 = true := by kernel_rfl
theorem sz133 : (Try.prog.info? 133).map (·.size) = some 1 := by kernel_rfl
theorem zr133 : (Try.prog.info? 133).map (·.zero) = some (some (.nilFunc : Value)) := by kernel_rfl
theorem zs133 : (Try.prog.info? 133).map (fun i => (i.zero, i.size)) = some (some (.nilFunc : Value), 1) := by kernel_rfl
theorem on134 : isOne Try.prog 134 = true := by kernel_rfl
theorem sz134 : (Try.prog.info? 134).map (·.size) = some 1 := by kernel_rfl
theorem zr134 : (Try.prog.info? 134).map (·.zero) = some (some (.nilFunc : Value)) := by kernel_rfl
theorem zs134 : (Try.prog.info? 134).map (fun i => (i.zero, i.size)) = some (some (.nilFunc : Value), 1) := by kernel_rfl
theorem un135 : Try.prog.underlying 135 = some (.int .u64) := Try.underlying135
theorem on135 : isOne Try.prog 135 = true := by kernel_rfl
theorem sz135 : (Try.prog.info? 135).map (·.size) = some 1 := by kernel_rfl
theorem zr135 : (Try.prog.info? 135).map (·.zero) = some (some (.int .u64 0 : Value)) := by kernel_rfl
theorem zs135 : (Try.prog.info? 135).map (fun i => (i.zero, i.size)) = some (some (.int .u64 0 : Value), 1) := by kernel_rfl
theorem on136 : isOne Try.prog 136 = true := by kernel_rfl
theorem sz136 : (Try.prog.info? 136).map (·.size) = some 1 := by kernel_rfl
theorem zr136 : (Try.prog.info? 136).map (·.zero) = some (some (.nilFunc : Value)) := by kernel_rfl
theorem zs136 : (Try.prog.info? 136).map (fun i => (i.zero, i.size)) = some (some (.nilFunc : Value), 1) := by kernel_rfl
theorem on137 : isOne Try.prog 137 = true := by kernel_rfl
theorem sz137 : (Try.prog.info? 137).map (·.size) = some 1 := by kernel_rfl
theorem zr137 : (Try.prog.info? 137).map (·.zero) = some (some (.nilFunc : Value)) := by kernel_rfl
theorem zs137 : (Try.prog.info? 137).map (fun i => (i.zero, i.size)) = some (some (.nilFunc : Value), 1) := by kernel_rfl
theorem un138 : Try.prog.underlying 138 = some (.int .i64) := Try.underlying138
theorem on138 : isOne Try.prog 138 = true := by kernel_rfl
theorem sz138 : (Try.prog.info? 138).map (·.size) = some 1 := by kernel_rfl
theorem zr138 : (Try.prog.info? 138).map (·.zero) = some (some (.int .i64 0 : Value)) := by kernel_rfl
theorem zs138 : (Try.prog.info? 138).map (fun i => (i.zero, i.size)) = some (some (.int .i64 0 : Value), 1) := by kernel_rfl
theorem on140 : isOne Try.prog 140 = true := by kernel_rfl
theorem sz140 : (Try.prog.info? 140).map (·.size) = some 1 := by kernel_rfl
theorem zr140 : (Try.prog.info? 140).map (·.zero) = some (some (.nilFunc : Value)) := by kernel_rfl
theorem zs140 : (Try.prog.info? 140).map (fun i => (i.zero, i.size)) = some (some (.nilFunc : Value), 1) := by kernel_rfl
theorem on141 : isOne Try.prog 141 = true := by kernel_rfl
theorem sz141 : (Try.prog.info? 141).map (·.size) = some 1 := by kernel_rfl
theorem zr141 : (Try.prog.info? 141).map (·.zero) = some (some (.nilFunc : Value)) := by kernel_rfl
theorem zs141 : (Try.prog.info? 141).map (fun i => (i.zero, i.size)) = some (some (.nilFunc : Value), 1) := by kernel_rfl
theorem on142 : isOne Try.prog 142 = true := by kernel_rfl
theorem sz142 : (Try.prog.info? 142).map (·.size) = some 1 := by kernel_rfl
theorem zr142 : (Try.prog.info? 142).map (·.zero) = some (some (.nilFunc : Value)) := by kernel_rfl
theorem zs142 : (Try.prog.info? 142).map (fun i => (i.zero, i.size)) = some (some (.nilFunc : Value), 1) := by kernel_rfl
theorem on143 : isOne Try.prog 143 = true := by kernel_rfl
theorem sz143 : (Try.prog.info? 143).map (·.size) = some 1 := by kernel_rfl
theorem zr143 : (Try.prog.info? 143).map (·.zero) = some (some (.nilFunc : Value)) := by kernel_rfl
theorem zs143 : (Try.prog.info? 143).map (fun i => (i.zero, i.size)) = some (some (.nilFunc : Value), 1) := by kernel_rfl
theorem on144 : isOne Try.prog 144 = true := by kernel_rfl
theorem sz144 : (Try.prog.info? 144).map (·.size) = some 1 := by kernel_rfl
theorem zr144 : (Try.prog.info? 144).map (·.zero) = some (some (.nilFunc : Value)) := by kernel_rfl
theorem zs144 : (Try.prog.info? 144).map (fun i => (i.zero, i.size)) = some (some (.nilFunc : Value), 1) := by kernel_rfl
theorem un145 : Try.prog.underlying 145 = some (.int .u64) := Try.underlying145
theorem on145 : isOne Try.prog 145 = true := by kernel_rfl
theorem sz145 : (Try.prog.info? 145).map (·.size) = some 1 := by kernel_rfl
theorem zr145 : (Try.prog.info? 145).map (·.zero) = some (some (.int .u64 0 : Value)) := by kernel_rfl
theorem zs145 : (Try.prog.info? 145).map (fun i => (i.zero, i.size)) = some (some (.int .u64 0 : Value), 1) := by kernel_rfl
theorem on146 : isOne Try.prog 146 = true := by kernel_rfl
theorem sz146 : (Try.prog.info? 146).map (·.size) = some 1 := by kernel_rfl
theorem zr146 : (Try.prog.info? 146).map (·.zero) = some (some (.nilFunc : Value)) := by kernel_rfl
theorem zs146 : (Try.prog.info? 146).map (fun i => (i.zero, i.size)) = some (some (.nilFunc : Value), 1) := by kernel_rfl
theorem on147 : isOne Try.prog 147 = true := by kernel_rfl
theorem sz147 : (Try.prog.info? 147).map (·.size) = some 1 := by kernel_rfl
theorem zr147 : (Try.prog.info? 147).map (·.zero) = some (some (.nilFunc : Value)) := by kernel_rfl
theorem zs147 : (Try.prog.info? 147).map (fun i => (i.zero, i.size)) = some (some (.nilFunc : Value), 1) := by kernel_rfl
theorem on148 : isOne Try.prog 148 = true := by kernel_rfl
theorem sz148 : (Try.prog.info? 148).map (·.size) = some 1 := by kernel_rfl
theorem zr148 : (Try.prog.info? 148).map (·.zero) = some (some (.nilFunc : Value)) := by kernel_rfl
theorem zs148 : (Try.prog.info? 148).map (fun i => (i.zero, i.size)) = some (some (.nilFunc : Value), 1) := by kernel_rfl
theorem un149 : Try.prog.underlying 149 = some (.pointer 3) := Try.underlying149
theorem on149 : isOne Try.prog 149 = true := by kernel_rfl
theorem sz149 : (Try.prog.info? 149).map (·.size) = some 1 := by kernel_rfl
theorem zr149 : (Try.prog.info? 149).map (·.zero) = some (some (.pointer none : Value)) := by kernel_rfl
theorem zs149 : (Try.prog.info? 149).map (fun i => (i.zero, i.size)) = some (some (.pointer none : Value), 1) := by kernel_rfl
theorem on150 : isOne Try.prog 150 = true := by kernel_rfl
theorem sz150 : (Try.prog.info? 150).map (·.size) = some 1 := by kernel_rfl
theorem zr150 : (Try.prog.info? 150).map (·.zero) = some (some (.nilFunc : Value)) := by kernel_rfl
theorem zs150 : (Try.prog.info? 150).map (fun i => (i.zero, i.size)) = some (some (.nilFunc : Value), 1) := by kernel_rfl
theorem un151 : Try.prog.underlying 151 = some (.pointer 145) := Try.underlying151
theorem on151 : isOne Try.prog 151 = true := by kernel_rfl
theorem sz151 : (Try.prog.info? 151).map (·.size) = some 1 := by kernel_rfl
theorem zr151 : (Try.prog.info? 151).map (·.zero) = some (some (.pointer none : Value)) := by kernel_rfl
theorem zs151 : (Try.prog.info? 151).map (fun i => (i.zero, i.size)) = some (some (.pointer none : Value), 1) := by kernel_rfl
theorem on153 : isOne Try.prog 153 = true := by kernel_rfl
theorem sz153 : (Try.prog.info? 153).map (·.size) = some 1 := by kernel_rfl
theorem zr153 : (Try.prog.info? 153).map (·.zero) = some (some (.nilFunc : Value)) := by kernel_rfl
theorem zs153 : (Try.prog.info? 153).map (fun i => (i.zero, i.size)) = some (some (.nilFunc : Value), 1) := by kernel_rfl
theorem on154 : isOne Try.prog 154 = true := by kernel_rfl
theorem sz154 : (Try.prog.info? 154).map (·.size) = some 1 := by kernel_rfl
theorem zr154 : (Try.prog.info? 154).map (·.zero) = some (some (.nilFunc : Value)) := by kernel_rfl
theorem zs154 : (Try.prog.info? 154).map (fun i => (i.zero, i.size)) = some (some (.nilFunc : Value), 1) := by kernel_rfl
theorem ag155 : aggB Try.prog 155 4 = true := by kernel_rfl
theorem sz155 : (Try.prog.info? 155).map (·.size) = some 4 := by kernel_rfl
theorem fo155_0 : fieldOff Try.prog 155 0 = some 0 := by kernel_rfl
theorem fo155_1 : fieldOff Try.prog 155 1 = some 1 := by kernel_rfl
theorem fo155_2 : fieldOff Try.prog 155 2 = some 2 := by kernel_rfl
theorem fo155_3 : fieldOff Try.prog 155 3 = some 3 := by kernel_rfl
theorem zr155 : (Try.prog.info? 155).map (·.zero) = some (some (.agg #[.pointer none, .pointer none, .pointer none, .string ByteArray.empty] : Value)) := by kernel_rfl
theorem zs155 : (Try.prog.info? 155).map (fun i => (i.zero, i.size)) = some (some (.agg #[.pointer none, .pointer none, .pointer none, .string ByteArray.empty] : Value), 4) := by kernel_rfl
theorem ag156 : aggB Try.prog 156 4 = true := by kernel_rfl
theorem sz156 : (Try.prog.info? 156).map (·.size) = some 4 := by kernel_rfl
theorem fo156_0 : fieldOff Try.prog 156 0 = some 0 := by kernel_rfl
theorem fo156_1 : fieldOff Try.prog 156 1 = some 1 := by kernel_rfl
theorem fo156_2 : fieldOff Try.prog 156 2 = some 2 := by kernel_rfl
theorem fo156_3 : fieldOff Try.prog 156 3 = some 3 := by kernel_rfl
theorem zr156 : (Try.prog.info? 156).map (·.zero) = some (some (.agg #[.pointer none, .pointer none, .pointer none, .string ByteArray.empty] : Value)) := by kernel_rfl
theorem zs156 : (Try.prog.info? 156).map (fun i => (i.zero, i.size)) = some (some (.agg #[.pointer none, .pointer none, .pointer none, .string ByteArray.empty] : Value), 4) := by kernel_rfl
theorem un157 : Try.prog.underlying 157 = some (.array 0 16) := Try.underlying157
theorem sz157 : (Try.prog.info? 157).map (·.size) = some 0 := by kernel_rfl
theorem zr157 : (Try.prog.info? 157).map (·.zero) = some (some (.agg #[] : Value)) := by kernel_rfl
theorem zs157 : (Try.prog.info? 157).map (fun i => (i.zero, i.size)) = some (some (.agg #[] : Value), 0) := by kernel_rfl
theorem sz158 : (Try.prog.info? 158).map (·.size) = some 0 := by kernel_rfl
theorem zr158 : (Try.prog.info? 158).map (·.zero) = some (some (.agg #[] : Value)) := by kernel_rfl
theorem zs158 : (Try.prog.info? 158).map (fun i => (i.zero, i.size)) = some (some (.agg #[] : Value), 0) := by kernel_rfl
theorem sz159 : (Try.prog.info? 159).map (·.size) = some 0 := by kernel_rfl
theorem zr159 : (Try.prog.info? 159).map (·.zero) = some (some (.agg #[] : Value)) := by kernel_rfl
theorem zs159 : (Try.prog.info? 159).map (fun i => (i.zero, i.size)) = some (some (.agg #[] : Value), 0) := by kernel_rfl
theorem on160 : isOne Try.prog 160 = true := by kernel_rfl
theorem sz160 : (Try.prog.info? 160).map (·.size) = some 1 := by kernel_rfl
theorem zr160 : (Try.prog.info? 160).map (·.zero) = some (some (.nilFunc : Value)) := by kernel_rfl
theorem zs160 : (Try.prog.info? 160).map (fun i => (i.zero, i.size)) = some (some (.nilFunc : Value), 1) := by kernel_rfl
theorem un161 : Try.prog.underlying 161 = some (.int .u8) := Try.underlying161
theorem on161 : isOne Try.prog 161 = true := by kernel_rfl
theorem sz161 : (Try.prog.info? 161).map (·.size) = some 1 := by kernel_rfl
theorem zr161 : (Try.prog.info? 161).map (·.zero) = some (some (.int .u8 0 : Value)) := by kernel_rfl
theorem zs161 : (Try.prog.info? 161).map (fun i => (i.zero, i.size)) = some (some (.int .u8 0 : Value), 1) := by kernel_rfl
theorem un162 : Try.prog.underlying 162 = some (.int .u8) := Try.underlying162
theorem on162 : isOne Try.prog 162 = true := by kernel_rfl
theorem sz162 : (Try.prog.info? 162).map (·.size) = some 1 := by kernel_rfl
theorem zr162 : (Try.prog.info? 162).map (·.zero) = some (some (.int .u8 0 : Value)) := by kernel_rfl
theorem zs162 : (Try.prog.info? 162).map (fun i => (i.zero, i.size)) = some (some (.int .u8 0 : Value), 1) := by kernel_rfl
theorem on163 : isOne Try.prog 163 = true := by kernel_rfl
theorem sz163 : (Try.prog.info? 163).map (·.size) = some 1 := by kernel_rfl
theorem zr163 : (Try.prog.info? 163).map (·.zero) = some (some (.nilFunc : Value)) := by kernel_rfl
theorem zs163 : (Try.prog.info? 163).map (fun i => (i.zero, i.size)) = some (some (.nilFunc : Value), 1) := by kernel_rfl
theorem un164 : Try.prog.underlying 164 = some (.pointer 5) := Try.underlying164
theorem on164 : isOne Try.prog 164 = true := by kernel_rfl
theorem sz164 : (Try.prog.info? 164).map (·.size) = some 1 := by kernel_rfl
theorem zr164 : (Try.prog.info? 164).map (·.zero) = some (some (.pointer none : Value)) := by kernel_rfl
theorem zs164 : (Try.prog.info? 164).map (fun i => (i.zero, i.size)) = some (some (.pointer none : Value), 1) := by kernel_rfl
theorem un165 : Try.prog.underlying 165 = some (.int .i32) := Try.underlying165
theorem on165 : isOne Try.prog 165 = true := by kernel_rfl
theorem sz165 : (Try.prog.info? 165).map (·.size) = some 1 := by kernel_rfl
theorem zr165 : (Try.prog.info? 165).map (·.zero) = some (some (.int .i32 0 : Value)) := by kernel_rfl
theorem zs165 : (Try.prog.info? 165).map (fun i => (i.zero, i.size)) = some (some (.int .i32 0 : Value), 1) := by kernel_rfl
theorem un166 : Try.prog.underlying 166 = some (.int .i32) := Try.underlying166
theorem on166 : isOne Try.prog 166 = true := by kernel_rfl
theorem sz166 : (Try.prog.info? 166).map (·.size) = some 1 := by kernel_rfl
theorem zr166 : (Try.prog.info? 166).map (·.zero) = some (some (.int .i32 0 : Value)) := by kernel_rfl
theorem zs166 : (Try.prog.info? 166).map (fun i => (i.zero, i.size)) = some (some (.int .i32 0 : Value), 1) := by kernel_rfl
theorem ag167 : aggB Try.prog 167 11 = true := by kernel_rfl
theorem sz167 : (Try.prog.info? 167).map (·.size) = some 11 := by kernel_rfl
theorem fo167_0 : fieldOff Try.prog 167 0 = some 0 := by kernel_rfl
theorem fo167_1 : fieldOff Try.prog 167 1 = some 1 := by kernel_rfl
theorem fo167_2 : fieldOff Try.prog 167 2 = some 2 := by kernel_rfl
theorem fo167_3 : fieldOff Try.prog 167 3 = some 3 := by kernel_rfl
theorem fo167_4 : fieldOff Try.prog 167 4 = some 4 := by kernel_rfl
theorem fo167_5 : fieldOff Try.prog 167 5 = some 5 := by kernel_rfl
theorem fo167_6 : fieldOff Try.prog 167 6 = some 6 := by kernel_rfl
theorem fo167_7 : fieldOff Try.prog 167 7 = some 7 := by kernel_rfl
theorem fo167_8 : fieldOff Try.prog 167 8 = some 8 := by kernel_rfl
theorem fo167_9 : fieldOff Try.prog 167 9 = some 9 := by kernel_rfl
theorem fo167_10 : fieldOff Try.prog 167 10 = some 10 := by kernel_rfl
theorem zr167 : (Try.prog.info? 167).map (·.zero) = some (some (.agg #[.int .u64 0, .int .u64 0, .int .u32 0, .int .u8 0, .int .u8 0, .int .u8 0, .int .u8 0, .nilFunc, .pointer none, .int .i32 0, .int .i32 0] : Value)) := by kernel_rfl
theorem zs167 : (Try.prog.info? 167).map (fun i => (i.zero, i.size)) = some (some (.agg #[.int .u64 0, .int .u64 0, .int .u32 0, .int .u8 0, .int .u8 0, .int .u8 0, .int .u8 0, .nilFunc, .pointer none, .int .i32 0, .int .i32 0] : Value), 11) := by kernel_rfl
theorem ag168 : aggB Try.prog 168 11 = true := by kernel_rfl
theorem sz168 : (Try.prog.info? 168).map (·.size) = some 11 := by kernel_rfl
theorem fo168_0 : fieldOff Try.prog 168 0 = some 0 := by kernel_rfl
theorem fo168_1 : fieldOff Try.prog 168 1 = some 1 := by kernel_rfl
theorem fo168_2 : fieldOff Try.prog 168 2 = some 2 := by kernel_rfl
theorem fo168_3 : fieldOff Try.prog 168 3 = some 3 := by kernel_rfl
theorem fo168_4 : fieldOff Try.prog 168 4 = some 4 := by kernel_rfl
theorem fo168_5 : fieldOff Try.prog 168 5 = some 5 := by kernel_rfl
theorem fo168_6 : fieldOff Try.prog 168 6 = some 6 := by kernel_rfl
theorem fo168_7 : fieldOff Try.prog 168 7 = some 7 := by kernel_rfl
theorem fo168_8 : fieldOff Try.prog 168 8 = some 8 := by kernel_rfl
theorem fo168_9 : fieldOff Try.prog 168 9 = some 9 := by kernel_rfl
theorem fo168_10 : fieldOff Try.prog 168 10 = some 10 := by kernel_rfl
theorem zr168 : (Try.prog.info? 168).map (·.zero) = some (some (.agg #[.int .u64 0, .int .u64 0, .int .u32 0, .int .u8 0, .int .u8 0, .int .u8 0, .int .u8 0, .nilFunc, .pointer none, .int .i32 0, .int .i32 0] : Value)) := by kernel_rfl
theorem zs168 : (Try.prog.info? 168).map (fun i => (i.zero, i.size)) = some (some (.agg #[.int .u64 0, .int .u64 0, .int .u32 0, .int .u8 0, .int .u8 0, .int .u8 0, .int .u8 0, .nilFunc, .pointer none, .int .i32 0, .int .i32 0] : Value), 11) := by kernel_rfl
theorem on169 : isOne Try.prog 169 = true := by kernel_rfl
theorem sz169 : (Try.prog.info? 169).map (·.size) = some 1 := by kernel_rfl
theorem zr169 : (Try.prog.info? 169).map (·.zero) = some (some (.nilFunc : Value)) := by kernel_rfl
theorem zs169 : (Try.prog.info? 169).map (fun i => (i.zero, i.size)) = some (some (.nilFunc : Value), 1) := by kernel_rfl
theorem on170 : isOne Try.prog 170 = true := by kernel_rfl
theorem sz170 : (Try.prog.info? 170).map (·.size) = some 1 := by kernel_rfl
theorem zr170 : (Try.prog.info? 170).map (·.zero) = some (some (.nilFunc : Value)) := by kernel_rfl
theorem zs170 : (Try.prog.info? 170).map (fun i => (i.zero, i.size)) = some (some (.nilFunc : Value), 1) := by kernel_rfl
theorem on171 : isOne Try.prog 171 = true := by kernel_rfl
theorem sz171 : (Try.prog.info? 171).map (·.size) = some 1 := by kernel_rfl
theorem zr171 : (Try.prog.info? 171).map (·.zero) = some (some (.nilFunc : Value)) := by kernel_rfl
theorem zs171 : (Try.prog.info? 171).map (fun i => (i.zero, i.size)) = some (some (.nilFunc : Value), 1) := by kernel_rfl
theorem on172 : isOne Try.prog 172 = true := by kernel_rfl
theorem sz172 : (Try.prog.info? 172).map (·.size) = some 1 := by kernel_rfl
theorem zr172 : (Try.prog.info? 172).map (·.zero) = some (some (.nilFunc : Value)) := by kernel_rfl
theorem zs172 : (Try.prog.info? 172).map (fun i => (i.zero, i.size)) = some (some (.nilFunc : Value), 1) := by kernel_rfl
theorem on173 : isOne Try.prog 173 = true := by kernel_rfl
theorem sz173 : (Try.prog.info? 173).map (·.size) = some 1 := by kernel_rfl
theorem zr173 : (Try.prog.info? 173).map (·.zero) = some (some (.nilFunc : Value)) := by kernel_rfl
theorem zs173 : (Try.prog.info? 173).map (fun i => (i.zero, i.size)) = some (some (.nilFunc : Value), 1) := by kernel_rfl
theorem on175 : isOne Try.prog 175 = true := by kernel_rfl
theorem sz175 : (Try.prog.info? 175).map (·.size) = some 1 := by kernel_rfl
theorem zr175 : (Try.prog.info? 175).map (·.zero) = some (some (.nilFunc : Value)) := by kernel_rfl
theorem zs175 : (Try.prog.info? 175).map (fun i => (i.zero, i.size)) = some (some (.nilFunc : Value), 1) := by kernel_rfl
theorem on176 : isOne Try.prog 176 = true := by kernel_rfl
theorem sz176 : (Try.prog.info? 176).map (·.size) = some 1 := by kernel_rfl
theorem zr176 : (Try.prog.info? 176).map (·.zero) = some (some (.nilFunc : Value)) := by kernel_rfl
theorem zs176 : (Try.prog.info? 176).map (fun i => (i.zero, i.size)) = some (some (.nilFunc : Value), 1) := by kernel_rfl
theorem on177 : isOne Try.prog 177 = true := by kernel_rfl
theorem sz177 : (Try.prog.info? 177).map (·.size) = some 1 := by kernel_rfl
theorem zr177 : (Try.prog.info? 177).map (·.zero) = some (some (.nilFunc : Value)) := by kernel_rfl
theorem zs177 : (Try.prog.info? 177).map (fun i => (i.zero, i.size)) = some (some (.nilFunc : Value), 1) := by kernel_rfl
theorem on178 : isOne Try.prog 178 = true := by kernel_rfl
theorem sz178 : (Try.prog.info? 178).map (·.size) = some 1 := by kernel_rfl
theorem zr178 : (Try.prog.info? 178).map (·.zero) = some (some (.nilFunc : Value)) := by kernel_rfl
theorem zs178 : (Try.prog.info? 178).map (fun i => (i.zero, i.size)) = some (some (.nilFunc : Value), 1) := by kernel_rfl
theorem on179 : isOne Try.prog 179 = true := by kernel_rfl
theorem sz179 : (Try.prog.info? 179).map (·.size) = some 1 := by kernel_rfl
theorem zr179 : (Try.prog.info? 179).map (·.zero) = some (some (.nilFunc : Value)) := by kernel_rfl
theorem zs179 : (Try.prog.info? 179).map (fun i => (i.zero, i.size)) = some (some (.nilFunc : Value), 1) := by kernel_rfl
theorem on180 : isOne Try.prog 180 = true := by kernel_rfl
theorem sz180 : (Try.prog.info? 180).map (·.size) = some 1 := by kernel_rfl
theorem zr180 : (Try.prog.info? 180).map (·.zero) = some (some (.nilFunc : Value)) := by kernel_rfl
theorem zs180 : (Try.prog.info? 180).map (fun i => (i.zero, i.size)) = some (some (.nilFunc : Value), 1) := by kernel_rfl
theorem zb23_37 : (Try.prog.info? 37).map (fun i => (i.zero, i.size, i.bytes)) = some (some (.agg #[.int .u8 0, .int .u64 0, .int .u64 0, .int .u32 0, .int .i64 0] : Value), 5, 40) := by kernel_rfl
theorem sl23 : SlT Try.prog 23 37 (.agg #[.int .u8 0, .int .u64 0, .int .u64 0, .int .u32 0, .int .i64 0] : Value) 5 40 := SlT.mk' un23 zb23_37 rfl (by decide)
theorem zb32_46 : (Try.prog.info? 46).map (fun i => (i.zero, i.size, i.bytes)) = some (some (.agg #[.int .u64 0, .int .u32 0] : Value), 2, 16) := by kernel_rfl
theorem sl32 : SlT Try.prog 32 46 (.agg #[.int .u64 0, .int .u32 0] : Value) 2 16 := SlT.mk' un32 zb32_46 rfl (by decide)
theorem zb52_5 : (Try.prog.info? 5).map (fun i => (i.zero, i.size, i.bytes)) = some (some (.int .u8 0 : Value), 1, 1) := by kernel_rfl
theorem sl52 : SlT Try.prog 52 5 (.int .u8 0 : Value) 1 1 := SlT.mk' un52 zb52_5 rfl (by decide)
theorem zb68_73 : (Try.prog.info? 73).map (fun i => (i.zero, i.size, i.bytes)) = some (some (.int .u16 0 : Value), 1, 2) := by kernel_rfl
theorem sl68 : SlT Try.prog 68 73 (.int .u16 0 : Value) 1 2 := SlT.mk' un68 zb68_73 rfl (by decide)
theorem zb105_22 : (Try.prog.info? 22).map (fun i => (i.zero, i.size, i.bytes)) = some (some (.int .u64 0 : Value), 1, 8) := by kernel_rfl
theorem sl105 : SlT Try.prog 105 22 (.int .u64 0 : Value) 1 8 := SlT.mk' un105 zb105_22 rfl (by decide)
theorem en3 : ∀ args w, (callFunc 3 args).run Try.prog w = .ok (.enter 3 args) w := enters Try.func3 (by kernel_rfl) rfl -- hailer/hailerlaw39.JitterPlays
theorem en4 : ∀ args w, (callFunc 4 args).run Try.prog w = .ok (.enter 4 args) w := enters Try.func4 (by kernel_rfl) rfl -- hailer/hailerlaw39.JitterEnds
theorem en5 : ∀ args w, (callFunc 5 args).run Try.prog w = .ok (.enter 5 args) w := enters Try.func5 (by kernel_rfl) rfl -- hailer/hailerlaw39.JitterOnce
theorem en6 : ∀ args w, (callFunc 6 args).run Try.prog w = .ok (.enter 6 args) w := enters Try.func6 (by kernel_rfl) rfl -- hailer/hailerlaw39.JitterLike
theorem en7 : ∀ args w, (callFunc 7 args).run Try.prog w = .ok (.enter 7 args) w := enters Try.func7 (by kernel_rfl) rfl -- hailer/hailerlaw39.known
theorem en8 : ∀ args w, (callFunc 8 args).run Try.prog w = .ok (.enter 8 args) w := enters Try.func8 (by kernel_rfl) rfl -- hailer/jitter.New[uint32]
theorem en9 : ∀ args w, (callFunc 9 args).run Try.prog w = .ok (.enter 9 args) w := enters Try.func9 (by kernel_rfl) rfl -- hailer/hailerref39.May
theorem en10 : ∀ args w, (callFunc 10 args).run Try.prog w = .ok (.enter 10 args) w := enters Try.func10 (by kernel_rfl) rfl -- (*hailer/jitter.Buffer[uint32]).Put
theorem en11 : ∀ args w, (callFunc 11 args).run Try.prog w = .ok (.enter 11 args) w := enters Try.func11 (by kernel_rfl) rfl -- (*hailer/hailerref39.Buffer).Put
theorem en12 : ∀ args w, (callFunc 12 args).run Try.prog w = .ok (.enter 12 args) w := enters Try.func12 (by kernel_rfl) rfl -- (*hailer/jitter.Buffer[uint32]).Next
theorem en13 : ∀ args w, (callFunc 13 args).run Try.prog w = .ok (.enter 13 args) w := enters Try.func13 (by kernel_rfl) rfl -- (*hailer/hailerref39.Buffer).Ask
theorem en14 : ∀ args w, (callFunc 14 args).run Try.prog w = .ok (.enter 14 args) w := enters Try.func14 (by kernel_rfl) rfl -- hailer/hailerlaw39.plays
theorem en15 : ∀ args w, (callFunc 15 args).run Try.prog w = .ok (.enter 15 args) w := enters Try.func15 (by kernel_rfl) rfl -- (*hailer/jitter.Buffer[uint32]).All
theorem en16 : ∀ args w, (callFunc 16 args).run Try.prog w = .ok (.enter 16 args) w := enters Try.func16 (by kernel_rfl) rfl -- (*hailer/jitter.Buffer[uint32]).Due
theorem en17 : ∀ args w, (callFunc 17 args).run Try.prog w = .ok (.enter 17 args) w := enters Try.func17 (by kernel_rfl) rfl -- hailer/hailerlaw39.sums[uint32]
theorem en18 : ∀ args w, (callFunc 18 args).run Try.prog w = .ok (.enter 18 args) w := enters Try.func18 (by kernel_rfl) rfl -- (*hailer/hailerref39.Buffer).Due
theorem en19 : ∀ args w, (callFunc 19 args).run Try.prog w = .ok (.enter 19 args) w := enters Try.func19 (by kernel_rfl) rfl -- hailer/jitter.New[uint8]
theorem en20 : ∀ args w, (callFunc 20 args).run Try.prog w = .ok (.enter 20 args) w := enters Try.func20 (by kernel_rfl) rfl -- (*hailer/jitter.Buffer[uint8]).Put
theorem en21 : ∀ args w, (callFunc 21 args).run Try.prog w = .ok (.enter 21 args) w := enters Try.func21 (by kernel_rfl) rfl -- (*hailer/jitter.Buffer[uint8]).Next
theorem en22 : ∀ args w, (callFunc 22 args).run Try.prog w = .ok (.enter 22 args) w := enters Try.func22 (by kernel_rfl) rfl -- (*hailer/jitter.Buffer[uint8]).Due
theorem en23 : ∀ args w, (callFunc 23 args).run Try.prog w = .ok (.enter 23 args) w := enters Try.func23 (by kernel_rfl) rfl -- (*hailer/jitter.Buffer[uint32]).Sums
theorem en24 : ∀ args w, (callFunc 24 args).run Try.prog w = .ok (.enter 24 args) w := enters Try.func24 (by kernel_rfl) rfl -- hailer/jitter.New[uint64]
theorem en25 : ∀ args w, (callFunc 25 args).run Try.prog w = .ok (.enter 25 args) w := enters Try.func25 (by kernel_rfl) rfl -- (*hailer/jitter.Buffer[uint64]).Put
theorem en26 : ∀ args w, (callFunc 26 args).run Try.prog w = .ok (.enter 26 args) w := enters Try.func26 (by kernel_rfl) rfl -- (*hailer/jitter.Buffer[uint64]).Play
theorem en27 : ∀ args w, (callFunc 27 args).run Try.prog w = .ok (.enter 27 args) w := enters Try.func27 (by kernel_rfl) rfl -- (*hailer/jitter.Buffer[uint64]).Next
theorem en28 : ∀ args w, (callFunc 28 args).run Try.prog w = .ok (.enter 28 args) w := enters Try.func28 (by kernel_rfl) rfl -- (*hailer/jitter.Buffer[uint64]).Sums
theorem en29 : ∀ args w, (callFunc 29 args).run Try.prog w = .ok (.enter 29 args) w := enters Try.func29 (by kernel_rfl) rfl -- hailer/jitter.New[string]
theorem en30 : ∀ args w, (callFunc 30 args).run Try.prog w = .ok (.enter 30 args) w := enters Try.func30 (by kernel_rfl) rfl -- (*hailer/jitter.Buffer[string]).Put
theorem en31 : ∀ args w, (callFunc 31 args).run Try.prog w = .ok (.enter 31 args) w := enters Try.func31 (by kernel_rfl) rfl -- (*hailer/jitter.Buffer[string]).Due
theorem en32 : ∀ args w, (callFunc 32 args).run Try.prog w = .ok (.enter 32 args) w := enters Try.func32 (by kernel_rfl) rfl -- (*hailer/jitter.Buffer[string]).Next
theorem en33 : ∀ args w, (callFunc 33 args).run Try.prog w = .ok (.enter 33 args) w := enters Try.func33 (by kernel_rfl) rfl -- hailer/jitter.New[int]
theorem en34 : ∀ args w, (callFunc 34 args).run Try.prog w = .ok (.enter 34 args) w := enters Try.func34 (by kernel_rfl) rfl -- (*hailer/jitter.Buffer[int]).Next
theorem en35 : ∀ args w, (callFunc 35 args).run Try.prog w = .ok (.enter 35 args) w := enters Try.func35 (by kernel_rfl) rfl -- (*hailer/jitter.Buffer[int]).Due
theorem en36 : ∀ args w, (callFunc 36 args).run Try.prog w = .ok (.enter 36 args) w := enters Try.func36 (by kernel_rfl) rfl -- (*hailer/jitter.Buffer[int]).All
theorem en37 : ∀ args w, (callFunc 37 args).run Try.prog w = .ok (.enter 37 args) w := enters Try.func37 (by kernel_rfl) rfl -- (*hailer/jitter.Buffer[int]).Play
theorem en38 : ∀ args w, (callFunc 38 args).run Try.prog w = .ok (.enter 38 args) w := enters Try.func38 (by kernel_rfl) rfl -- (*hailer/jitter.Buffer[int]).Put
theorem en39 : ∀ args w, (callFunc 39 args).run Try.prog w = .ok (.enter 39 args) w := enters Try.func39 (by kernel_rfl) rfl -- (*hailer/jitter.Buffer[int]).Sums
theorem en40 : ∀ args w, (callFunc 40 args).run Try.prog w = .ok (.enter 40 args) w := enters Try.func40 (by kernel_rfl) rfl -- (*hailer/hailerref39.Buffer).place
theorem en41 : ∀ args w, (callFunc 41 args).run Try.prog w = .ok (.enter 41 args) w := enters Try.func41 (by kernel_rfl) rfl -- (*hailer/jitter.Buffer[uint32]).Play
theorem en42 : ∀ args w, (callFunc 42 args).run Try.prog w = .ok (.enter 42 args) w := enters Try.func42 (by kernel_rfl) rfl -- (*hailer/jitter.Buffer[uint32]).All$1
theorem en43 : ∀ args w, (callFunc 43 args).run Try.prog w = .ok (.enter 43 args) w := enters Try.func43 (by kernel_rfl) rfl -- maps.Clone[map[uint64]uint32,uint64,uint32]
theorem en44 : ∀ args w, (callFunc 44 args).run Try.prog w = .ok (.enter 44 args) w := enters Try.func44 (by kernel_rfl) rfl -- slices.Values[[]uint64,uint64]
theorem en45 : ∀ args w, (callFunc 45 args).run Try.prog w = .ok (.enter 45 args) w := enters Try.func45 (by kernel_rfl) rfl -- slices.Sorted[uint64]
theorem en46 : ∀ args w, (callFunc 46 args).run Try.prog w = .ok (.enter 46 args) w := enters Try.func46 (by kernel_rfl) rfl -- maps.Keys[map[uint64]uint32,uint64,uint32]
theorem en47 : ∀ args w, (callFunc 47 args).run Try.prog w = .ok (.enter 47 args) w := enters Try.func47 (by kernel_rfl) rfl -- (*hailer/jitter.Buffer[uint32]).due
theorem en48 : ∀ args w, (callFunc 48 args).run Try.prog w = .ok (.enter 48 args) w := enters Try.func48 (by kernel_rfl) rfl -- hailer/hailerref39.plus
theorem en49 : ∀ args w, (callFunc 49 args).run Try.prog w = .ok (.enter 49 args) w := enters Try.func49 (by kernel_rfl) rfl -- (*hailer/jitter.Buffer[uint8]).due
theorem en50 : ∀ args w, (callFunc 50 args).run Try.prog w = .ok (.enter 50 args) w := enters Try.func50 (by kernel_rfl) rfl -- (*hailer/jitter.Buffer[uint64]).Play$1
theorem en51 : ∀ args w, (callFunc 51 args).run Try.prog w = .ok (.enter 51 args) w := enters Try.func51 (by kernel_rfl) rfl -- (*hailer/jitter.Buffer[uint64]).Due
theorem en52 : ∀ args w, (callFunc 52 args).run Try.prog w = .ok (.enter 52 args) w := enters Try.func52 (by kernel_rfl) rfl -- (*hailer/jitter.Buffer[string]).due
theorem en53 : ∀ args w, (callFunc 53 args).run Try.prog w = .ok (.enter 53 args) w := enters Try.func53 (by kernel_rfl) rfl -- (*hailer/jitter.Buffer[int]).due
theorem en54 : ∀ args w, (callFunc 54 args).run Try.prog w = .ok (.enter 54 args) w := enters Try.func54 (by kernel_rfl) rfl -- (*hailer/jitter.Buffer[int]).All$1
theorem en55 : ∀ args w, (callFunc 55 args).run Try.prog w = .ok (.enter 55 args) w := enters Try.func55 (by kernel_rfl) rfl -- maps.Clone[map[uint64]int,uint64,int]
theorem en56 : ∀ args w, (callFunc 56 args).run Try.prog w = .ok (.enter 56 args) w := enters Try.func56 (by kernel_rfl) rfl -- maps.Keys[map[uint64]int,uint64,int]
theorem en57 : ∀ args w, (callFunc 57 args).run Try.prog w = .ok (.enter 57 args) w := enters Try.func57 (by kernel_rfl) rfl -- (*hailer/jitter.Buffer[int]).Play$1
theorem en58 : ∀ args w, (callFunc 58 args).run Try.prog w = .ok (.enter 58 args) w := enters Try.func58 (by kernel_rfl) rfl -- (*hailer/jitter.Buffer[uint32]).Play$1
theorem en60 : ∀ args w, (callFunc 60 args).run Try.prog w = .ok (.enter 60 args) w := enters Try.func60 (by kernel_rfl) rfl -- slices.Values[[]uint64,uint64]$1
theorem en61 : ∀ args w, (callFunc 61 args).run Try.prog w = .ok (.enter 61 args) w := enters Try.func61 (by kernel_rfl) rfl -- slices.Collect[uint64]
theorem en62 : ∀ args w, (callFunc 62 args).run Try.prog w = .ok (.enter 62 args) w := enters Try.func62 (by kernel_rfl) rfl -- slices.Sort[[]uint64,uint64]
theorem en63 : ∀ args w, (callFunc 63 args).run Try.prog w = .ok (.enter 63 args) w := enters Try.func63 (by kernel_rfl) rfl -- maps.Keys[map[uint64]uint32,uint64,uint32]$1
theorem en65 : ∀ args w, (callFunc 65 args).run Try.prog w = .ok (.enter 65 args) w := enters Try.func65 (by kernel_rfl) rfl -- hailer/jitter.plus
theorem en66 : ∀ args w, (callFunc 66 args).run Try.prog w = .ok (.enter 66 args) w := enters Try.func66 (by kernel_rfl) rfl -- (*hailer/jitter.Buffer[uint64]).due
theorem en67 : ∀ args w, (callFunc 67 args).run Try.prog w = .ok (.enter 67 args) w := enters Try.func67 (by kernel_rfl) rfl -- maps.Keys[map[uint64]int,uint64,int]$1
theorem en68 : ∀ args w, (callFunc 68 args).run Try.prog w = .ok (.enter 68 args) w := enters Try.func68 (by kernel_rfl) rfl -- slices.AppendSeq[[]uint64,uint64]
theorem en69 : ∀ args w, (callFunc 69 args).run Try.prog w = .ok (.enter 69 args) w := enters Try.func69 (by kernel_rfl) rfl -- slices.pdqsortOrdered[uint64]
theorem en72 : ∀ args w, (callFunc 72 args).run Try.prog w = .ok (.enter 72 args) w := enters Try.func72 (by kernel_rfl) rfl -- slices.insertionSortOrdered[uint64]
theorem en73 : ∀ args w, (callFunc 73 args).run Try.prog w = .ok (.enter 73 args) w := enters Try.func73 (by kernel_rfl) rfl -- slices.heapSortOrdered[uint64]
theorem en74 : ∀ args w, (callFunc 74 args).run Try.prog w = .ok (.enter 74 args) w := enters Try.func74 (by kernel_rfl) rfl -- slices.breakPatternsOrdered[uint64]
theorem en75 : ∀ args w, (callFunc 75 args).run Try.prog w = .ok (.enter 75 args) w := enters Try.func75 (by kernel_rfl) rfl -- slices.choosePivotOrdered[uint64]
theorem en76 : ∀ args w, (callFunc 76 args).run Try.prog w = .ok (.enter 76 args) w := enters Try.func76 (by kernel_rfl) rfl -- slices.reverseRangeOrdered[uint64]
theorem en77 : ∀ args w, (callFunc 77 args).run Try.prog w = .ok (.enter 77 args) w := enters Try.func77 (by kernel_rfl) rfl -- slices.partialInsertionSortOrdered[uint64]
theorem en78 : ∀ args w, (callFunc 78 args).run Try.prog w = .ok (.enter 78 args) w := enters Try.func78 (by kernel_rfl) rfl -- cmp.Less[uint64]
theorem en79 : ∀ args w, (callFunc 79 args).run Try.prog w = .ok (.enter 79 args) w := enters Try.func79 (by kernel_rfl) rfl -- slices.partitionEqualOrdered[uint64]
theorem en80 : ∀ args w, (callFunc 80 args).run Try.prog w = .ok (.enter 80 args) w := enters Try.func80 (by kernel_rfl) rfl -- slices.partitionOrdered[uint64]
theorem en83 : ∀ args w, (callFunc 83 args).run Try.prog w = .ok (.enter 83 args) w := enters Try.func83 (by kernel_rfl) rfl -- slices.siftDownOrdered[uint64]
theorem en84 : ∀ args w, (callFunc 84 args).run Try.prog w = .ok (.enter 84 args) w := enters Try.func84 (by kernel_rfl) rfl -- slices.nextPowerOfTwo
theorem en86 : ∀ args w, (callFunc 86 args).run Try.prog w = .ok (.enter 86 args) w := enters Try.func86 (by kernel_rfl) rfl -- slices.medianAdjacentOrdered[uint64]
theorem en87 : ∀ args w, (callFunc 87 args).run Try.prog w = .ok (.enter 87 args) w := enters Try.func87 (by kernel_rfl) rfl -- slices.medianOrdered[uint64]
theorem en88 : ∀ args w, (callFunc 88 args).run Try.prog w = .ok (.enter 88 args) w := enters Try.func88 (by kernel_rfl) rfl -- cmp.isNaN[uint64]
theorem en89 : ∀ args w, (callFunc 89 args).run Try.prog w = .ok (.enter 89 args) w := enters Try.func89 (by kernel_rfl) rfl -- slices.order2Ordered[uint64]
end Go.Proofs.Ytklbmgfpnafdlaa
