/- Facts on the types and functions of the program, each closed. -/
import Derived.Test.YtnmeoleahcnnkaaProg
import Derived.Test.YtnmeoleahcnnkaaLibW
namespace Go.Proofs.Ytnmeoleahcnnkaa
open Go Go.RowKit
theorem mixed : Try.prog.follows .mixedOrders = true := by kernel_rfl
theorem on1 : isOne Try.prog 1 = true := by kernel_rfl
theorem sz1 : (Try.prog.info? 1).map (·.size) = some 1 := by kernel_rfl
theorem zr1 : (Try.prog.info? 1).map (·.zero) = some (some (.nilFunc : Value)) := by kernel_rfl
theorem zs1 : (Try.prog.info? 1).map (fun i => (i.zero, i.size)) = some (some (.nilFunc : Value), 1) := by kernel_rfl
theorem un2 : Try.prog.underlying 2 = some (.int .i64) := Try.underlying2
theorem on2 : isOne Try.prog 2 = true := by kernel_rfl
theorem sz2 : (Try.prog.info? 2).map (·.size) = some 1 := by kernel_rfl
theorem zr2 : (Try.prog.info? 2).map (·.zero) = some (some (.int .i64 0 : Value)) := by kernel_rfl
theorem zs2 : (Try.prog.info? 2).map (fun i => (i.zero, i.size)) = some (some (.int .i64 0 : Value), 1) := by kernel_rfl
theorem un3 : Try.prog.underlying 3 = some (.int .i64) := Try.underlying3
theorem on3 : isOne Try.prog 3 = true := by kernel_rfl
theorem sz3 : (Try.prog.info? 3).map (·.size) = some 1 := by kernel_rfl
theorem zr3 : (Try.prog.info? 3).map (·.zero) = some (some (.int .i64 0 : Value)) := by kernel_rfl
theorem zs3 : (Try.prog.info? 3).map (fun i => (i.zero, i.size)) = some (some (.int .i64 0 : Value), 1) := by kernel_rfl
theorem un4 : Try.prog.underlying 4 = some (.bool) := Try.underlying4
theorem on4 : isOne Try.prog 4 = true := by kernel_rfl
theorem sz4 : (Try.prog.info? 4).map (·.size) = some 1 := by kernel_rfl
theorem zr4 : (Try.prog.info? 4).map (·.zero) = some (some (.bool false : Value)) := by kernel_rfl
theorem zs4 : (Try.prog.info? 4).map (fun i => (i.zero, i.size)) = some (some (.bool false : Value), 1) := by kernel_rfl
theorem un5 : Try.prog.underlying 5 = some (.int .u8) := Try.underlying5
theorem on5 : isOne Try.prog 5 = true := by kernel_rfl
theorem sz5 : (Try.prog.info? 5).map (·.size) = some 1 := by kernel_rfl
theorem zr5 : (Try.prog.info? 5).map (·.zero) = some (some (.int .u8 0 : Value)) := by kernel_rfl
theorem zs5 : (Try.prog.info? 5).map (fun i => (i.zero, i.size)) = some (some (.int .u8 0 : Value), 1) := by kernel_rfl
theorem un6 : Try.prog.underlying 6 = some (.int .u8) := Try.underlying6
theorem on6 : isOne Try.prog 6 = true := by kernel_rfl
theorem sz6 : (Try.prog.info? 6).map (·.size) = some 1 := by kernel_rfl
theorem zr6 : (Try.prog.info? 6).map (·.zero) = some (some (.int .u8 0 : Value)) := by kernel_rfl
theorem zs6 : (Try.prog.info? 6).map (fun i => (i.zero, i.size)) = some (some (.int .u8 0 : Value), 1) := by kernel_rfl
theorem ag7 : aggB Try.prog 7 4 = true := by kernel_rfl
theorem sz7 : (Try.prog.info? 7).map (·.size) = some 4 := by kernel_rfl
theorem fo7_0 : fieldOff Try.prog 7 0 = some 0 := by kernel_rfl
theorem fo7_1 : fieldOff Try.prog 7 1 = some 1 := by kernel_rfl
theorem fo7_2 : fieldOff Try.prog 7 2 = some 2 := by kernel_rfl
theorem fo7_3 : fieldOff Try.prog 7 3 = some 3 := by kernel_rfl
theorem zr7 : (Try.prog.info? 7).map (·.zero) = some (some (.agg #[.int .i64 0, .int .i64 0, .bool false, .int .u8 0] : Value)) := by kernel_rfl
theorem zs7 : (Try.prog.info? 7).map (fun i => (i.zero, i.size)) = some (some (.agg #[.int .i64 0, .int .i64 0, .bool false, .int .u8 0] : Value), 4) := by kernel_rfl
theorem ag8 : aggB Try.prog 8 4 = true := by kernel_rfl
theorem sz8 : (Try.prog.info? 8).map (·.size) = some 4 := by kernel_rfl
theorem fo8_0 : fieldOff Try.prog 8 0 = some 0 := by kernel_rfl
theorem fo8_1 : fieldOff Try.prog 8 1 = some 1 := by kernel_rfl
theorem fo8_2 : fieldOff Try.prog 8 2 = some 2 := by kernel_rfl
theorem fo8_3 : fieldOff Try.prog 8 3 = some 3 := by kernel_rfl
theorem zr8 : (Try.prog.info? 8).map (·.zero) = some (some (.agg #[.int .i64 0, .int .i64 0, .bool false, .int .u8 0] : Value)) := by kernel_rfl
theorem zs8 : (Try.prog.info? 8).map (fun i => (i.zero, i.size)) = some (some (.agg #[.int .i64 0, .int .i64 0, .bool false, .int .u8 0] : Value), 4) := by kernel_rfl
theorem un9 : Try.prog.underlying 9 = some (.string) := Try.underlying9
theorem on9 : isOne Try.prog 9 = true := by kernel_rfl
theorem sz9 : (Try.prog.info? 9).map (·.size) = some 1 := by kernel_rfl
theorem zr9 : (Try.prog.info? 9).map (·.zero) = some (some (.string ByteArray.empty : Value)) := by kernel_rfl
theorem zs9 : (Try.prog.info? 9).map (fun i => (i.zero, i.size)) = some (some (.string ByteArray.empty : Value), 1) := by kernel_rfl
theorem un10 : Try.prog.underlying 10 = some (.string) := Try.underlying10
theorem on10 : isOne Try.prog 10 = true := by kernel_rfl
theorem sz10 : (Try.prog.info? 10).map (·.size) = some 1 := by kernel_rfl
theorem zr10 : (Try.prog.info? 10).map (·.zero) = some (some (.string ByteArray.empty : Value)) := by kernel_rfl
theorem zs10 : (Try.prog.info? 10).map (fun i => (i.zero, i.size)) = some (some (.string ByteArray.empty : Value), 1) := by kernel_rfl
theorem un11 : Try.prog.underlying 11 = some (.string) := Try.underlying11
theorem on11 : isOne Try.prog 11 = true := by kernel_rfl
theorem sz11 : (Try.prog.info? 11).map (·.size) = some 1 := by kernel_rfl
theorem zr11 : (Try.prog.info? 11).map (·.zero) = some (some (.string ByteArray.empty : Value)) := by kernel_rfl
theorem zs11 : (Try.prog.info? 11).map (fun i => (i.zero, i.size)) = some (some (.string ByteArray.empty : Value), 1) := by kernel_rfl
theorem un12 : Try.prog.underlying 12 = some (.int .u64) := Try.underlying12
theorem on12 : isOne Try.prog 12 = true := by kernel_rfl
theorem sz12 : (Try.prog.info? 12).map (·.size) = some 1 := by kernel_rfl
theorem zr12 : (Try.prog.info? 12).map (·.zero) = some (some (.int .u64 0 : Value)) := by kernel_rfl
theorem zs12 : (Try.prog.info? 12).map (fun i => (i.zero, i.size)) = some (some (.int .u64 0 : Value), 1) := by kernel_rfl
theorem ag13 : aggB Try.prog 13 2 = true := by kernel_rfl
theorem sz13 : (Try.prog.info? 13).map (·.size) = some 2 := by kernel_rfl
theorem fo13_0 : fieldOff Try.prog 13 0 = some 0 := by kernel_rfl
theorem fo13_1 : fieldOff Try.prog 13 1 = some 1 := by kernel_rfl
theorem zr13 : (Try.prog.info? 13).map (·.zero) = some (some (.agg #[.string ByteArray.empty, .int .u64 0] : Value)) := by kernel_rfl
theorem zs13 : (Try.prog.info? 13).map (fun i => (i.zero, i.size)) = some (some (.agg #[.string ByteArray.empty, .int .u64 0] : Value), 2) := by kernel_rfl
theorem ag14 : aggB Try.prog 14 2 = true := by kernel_rfl
theorem sz14 : (Try.prog.info? 14).map (·.size) = some 2 := by kernel_rfl
theorem fo14_0 : fieldOff Try.prog 14 0 = some 0 := by kernel_rfl
theorem fo14_1 : fieldOff Try.prog 14 1 = some 1 := by kernel_rfl
theorem zr14 : (Try.prog.info? 14).map (·.zero) = some (some (.agg #[.string ByteArray.empty, .int .u64 0] : Value)) := by kernel_rfl
theorem zs14 : (Try.prog.info? 14).map (fun i => (i.zero, i.size)) = some (some (.agg #[.string ByteArray.empty, .int .u64 0] : Value), 2) := by kernel_rfl
theorem un15 : Try.prog.underlying 15 = some (.pointer 86) := Try.underlying15
theorem on15 : isOne Try.prog 15 = true := by kernel_rfl
theorem sz15 : (Try.prog.info? 15).map (·.size) = some 1 := by kernel_rfl
theorem zr15 : (Try.prog.info? 15).map (·.zero) = some (some (.pointer none : Value)) := by kernel_rfl
theorem zs15 : (Try.prog.info? 15).map (fun i => (i.zero, i.size)) = some (some (.pointer none : Value), 1) := by kernel_rfl
theorem un16 : Try.prog.underlying 16 = some (.pointer 89) := Try.underlying16
theorem on16 : isOne Try.prog 16 = true := by kernel_rfl
theorem sz16 : (Try.prog.info? 16).map (·.size) = some 1 := by kernel_rfl
theorem zr16 : (Try.prog.info? 16).map (·.zero) = some (some (.pointer none : Value)) := by kernel_rfl
theorem zs16 : (Try.prog.info? 16).map (fun i => (i.zero, i.size)) = some (some (.pointer none : Value), 1) := by kernel_rfl
theorem un17 : Try.prog.underlying 17 = some (.pointer 98) := Try.underlying17
theorem on17 : isOne Try.prog 17 = true := by kernel_rfl
theorem sz17 : (Try.prog.info? 17).map (·.size) = some 1 := by kernel_rfl
theorem zr17 : (Try.prog.info? 17).map (·.zero) = some (some (.pointer none : Value)) := by kernel_rfl
theorem zs17 : (Try.prog.info? 17).map (fun i => (i.zero, i.size)) = some (some (.pointer none : Value), 1) := by kernel_rfl
theorem ag18 : aggB Try.prog 18 1 = true := by kernel_rfl
theorem sz18 : (Try.prog.info? 18).map (·.size) = some 1 := by kernel_rfl
theorem fo18_0 : fieldOff Try.prog 18 0 = some 0 := by kernel_rfl
theorem zr18 : (Try.prog.info? 18).map (·.zero) = some (some (.agg #[.pointer none] : Value)) := by kernel_rfl
theorem zs18 : (Try.prog.info? 18).map (fun i => (i.zero, i.size)) = some (some (.agg #[.pointer none] : Value), 1) := by kernel_rfl
theorem ag19 : aggB Try.prog 19 1 = true := by kernel_rfl
theorem sz19 : (Try.prog.info? 19).map (·.size) = some 1 := by kernel_rfl
theorem fo19_0 : fieldOff Try.prog 19 0 = some 0 := by kernel_rfl
theorem zr19 : (Try.prog.info? 19).map (·.zero) = some (some (.agg #[.pointer none] : Value)) := by kernel_rfl
theorem zs19 : (Try.prog.info? 19).map (fun i => (i.zero, i.size)) = some (some (.agg #[.pointer none] : Value), 1) := by kernel_rfl
theorem un21 : Try.prog.underlying 21 = some (.int .i32) := Try.underlying21
theorem on21 : isOne Try.prog 21 = true := by kernel_rfl
theorem sz21 : (Try.prog.info? 21).map (·.size) = some 1 := by kernel_rfl
theorem zr21 : (Try.prog.info? 21).map (·.zero) = some (some (.int .i32 0 : Value)) := by kernel_rfl
theorem zs21 : (Try.prog.info? 21).map (fun i => (i.zero, i.size)) = some (some (.int .i32 0 : Value), 1) := by kernel_rfl
theorem un22 : Try.prog.underlying 22 = some (.slice 5) := Try.underlying22
theorem on22 : isOne Try.prog 22 = true := by kernel_rfl
theorem sz22 : (Try.prog.info? 22).map (·.size) = some 1 := by kernel_rfl
theorem zr22 : (Try.prog.info? 22).map (·.zero) = some (some (.slice none 0 0 : Value)) := by kernel_rfl
theorem zs22 : (Try.prog.info? 22).map (fun i => (i.zero, i.size)) = some (some (.slice none 0 0 : Value), 1) := by kernel_rfl
theorem un23 : Try.prog.underlying 23 = some (.int .i64) := Try.underlying23
theorem on23 : isOne Try.prog 23 = true := by kernel_rfl
theorem sz23 : (Try.prog.info? 23).map (·.size) = some 1 := by kernel_rfl
theorem zr23 : (Try.prog.info? 23).map (·.zero) = some (some (.int .i64 0 : Value)) := by kernel_rfl
theorem zs23 : (Try.prog.info? 23).map (fun i => (i.zero, i.size)) = some (some (.int .i64 0 : Value), 1) := by kernel_rfl
theorem on25 : isOne Try.prog 25 = true := by kernel_rfl
theorem sz25 : (Try.prog.info? 25).map (·.size) = some 1 := by kernel_rfl
theorem zr25 : (Try.prog.info? 25).map (·.zero) = some (some (.nilFunc : Value)) := by kernel_rfl
theorem zs25 : (Try.prog.info? 25).map (fun i => (i.zero, i.size)) = some (some (.nilFunc : Value), 1) := by kernel_rfl
theorem un26 : Try.prog.underlying 26 = some (.array 16 5) := Try.underlying26
theorem ag26 : aggB Try.prog 26 16 = true := by kernel_rfl
theorem sz26 : (Try.prog.info? 26).map (·.size) = some 16 := by kernel_rfl
theorem zr26 : (Try.prog.info? 26).map (·.zero) = some (some (.agg #[.int .u8 0, .int .u8 0, .int .u8 0, .int .u8 0, .int .u8 0, .int .u8 0, .int .u8 0, .int .u8 0, .int .u8 0, .int .u8 0, .int .u8 0, .int .u8 0, .int .u8 0, .int .u8 0, .int .u8 0, .int .u8 0] : Value)) := by kernel_rfl
theorem zs26 : (Try.prog.info? 26).map (fun i => (i.zero, i.size)) = some (some (.agg #[.int .u8 0, .int .u8 0, .int .u8 0, .int .u8 0, .int .u8 0, .int .u8 0, .int .u8 0, .int .u8 0, .int .u8 0, .int .u8 0, .int .u8 0, .int .u8 0, .int .u8 0, .int .u8 0, .int .u8 0, .int .u8 0] : Value), 16) := by kernel_rfl
theorem un27 : Try.prog.underlying 27 = some (.array 16 5) := Try.underlying27
theorem ag27 : aggB Try.prog 27 16 = true := by kernel_rfl
theorem sz27 : (Try.prog.info? 27).map (·.size) = some 16 := by kernel_rfl
theorem zr27 : (Try.prog.info? 27).map (·.zero) = some (some (.agg #[.int .u8 0, .int .u8 0, .int .u8 0, .int .u8 0, .int .u8 0, .int .u8 0, .int .u8 0, .int .u8 0, .int .u8 0, .int .u8 0, .int .u8 0, .int .u8 0, .int .u8 0, .int .u8 0, .int .u8 0, .int .u8 0] : Value)) := by kernel_rfl
theorem zs27 : (Try.prog.info? 27).map (fun i => (i.zero, i.size)) = some (some (.agg #[.int .u8 0, .int .u8 0, .int .u8 0, .int .u8 0, .int .u8 0, .int .u8 0, .int .u8 0, .int .u8 0, .int .u8 0, .int .u8 0, .int .u8 0, .int .u8 0, .int .u8 0, .int .u8 0, .int .u8 0, .int .u8 0] : Value), 16) := by kernel_rfl
theorem ag28 : aggB Try.prog 28 2 = true := by kernel_rfl
theorem sz28 : (Try.prog.info? 28).map (·.size) = some 2 := by kernel_rfl
theorem fo28_0 : fieldOff Try.prog 28 0 = some 0 := by kernel_rfl
theorem fo28_1 : fieldOff Try.prog 28 1 = some 1 := by kernel_rfl
theorem zr28 : (Try.prog.info? 28).map (·.zero) = some (some (.agg #[.int .u8 0, .int .u8 0] : Value)) := by kernel_rfl
theorem zs28 : (Try.prog.info? 28).map (fun i => (i.zero, i.size)) = some (some (.agg #[.int .u8 0, .int .u8 0] : Value), 2) := by kernel_rfl
theorem ag29 : aggB Try.prog 29 2 = true := by kernel_rfl
theorem sz29 : (Try.prog.info? 29).map (·.size) = some 2 := by kernel_rfl
theorem fo29_0 : fieldOff Try.prog 29 0 = some 0 := by kernel_rfl
theorem fo29_1 : fieldOff Try.prog 29 1 = some 1 := by kernel_rfl
theorem zr29 : (Try.prog.info? 29).map (·.zero) = some (some (.agg #[.int .u8 0, .int .u8 0] : Value)) := by kernel_rfl
theorem zs29 : (Try.prog.info? 29).map (fun i => (i.zero, i.size)) = some (some (.agg #[.int .u8 0, .int .u8 0] : Value), 2) := by kernel_rfl
theorem un30 : Try.prog.underlying 30 = some (.array 32 5) := Try.underlying30
theorem ag30 : aggB Try.prog 30 32 = true := by kernel_rfl
theorem sz30 : (Try.prog.info? 30).map (·.size) = some 32 := by kernel_rfl
theorem zr30 : (Try.prog.info? 30).map (·.zero) = some (some (.agg #[.int .u8 0, .int .u8 0, .int .u8 0, .int .u8 0, .int .u8 0, .int .u8 0, .int .u8 0, .int .u8 0, .int .u8 0, .int .u8 0, .int .u8 0, .int .u8 0, .int .u8 0, .int .u8 0, .int .u8 0, .int .u8 0, .int .u8 0, .int .u8 0, .int .u8 0, .int .u8 0, .int .u8 0, .int .u8 0, .int .u8 0, .int .u8 0, .int .u8 0, .int .u8 0, .int .u8 0, .int .u8 0, .int .u8 0, .int .u8 0, .int .u8 0, .int .u8 0] : Value)) := by kernel_rfl
theorem zs30 : (Try.prog.info? 30).map (fun i => (i.zero, i.size)) = some (some (.agg #[.int .u8 0, .int .u8 0, .int .u8 0, .int .u8 0, .int .u8 0, .int .u8 0, .int .u8 0, .int .u8 0, .int .u8 0, .int .u8 0, .int .u8 0, .int .u8 0, .int .u8 0, .int .u8 0, .int .u8 0, .int .u8 0, .int .u8 0, .int .u8 0, .int .u8 0, .int .u8 0, .int .u8 0, .int .u8 0, .int .u8 0, .int .u8 0, .int .u8 0, .int .u8 0, .int .u8 0, .int .u8 0, .int .u8 0, .int .u8 0, .int .u8 0, .int .u8 0] : Value), 32) := by kernel_rfl
theorem un31 : Try.prog.underlying 31 = some (.array 32 5) := Try.underlying31
theorem ag31 : aggB Try.prog 31 32 = true := by kernel_rfl
theorem sz31 : (Try.prog.info? 31).map (·.size) = some 32 := by kernel_rfl
theorem zr31 : (Try.prog.info? 31).map (·.zero) = some (some (.agg #[.int .u8 0, .int .u8 0, .int .u8 0, .int .u8 0, .int .u8 0, .int .u8 0, .int .u8 0, .int .u8 0, .int .u8 0, .int .u8 0, .int .u8 0, .int .u8 0, .int .u8 0, .int .u8 0, .int .u8 0, .int .u8 0, .int .u8 0, .int .u8 0, .int .u8 0, .int .u8 0, .int .u8 0, .int .u8 0, .int .u8 0, .int .u8 0, .int .u8 0, .int .u8 0, .int .u8 0, .int .u8 0, .int .u8 0, .int .u8 0, .int .u8 0, .int .u8 0] : Value)) := by kernel_rfl
theorem zs31 : (Try.prog.info? 31).map (fun i => (i.zero, i.size)) = some (some (.agg #[.int .u8 0, .int .u8 0, .int .u8 0, .int .u8 0, .int .u8 0, .int .u8 0, .int .u8 0, .int .u8 0, .int .u8 0, .int .u8 0, .int .u8 0, .int .u8 0, .int .u8 0, .int .u8 0, .int .u8 0, .int .u8 0, .int .u8 0, .int .u8 0, .int .u8 0, .int .u8 0, .int .u8 0, .int .u8 0, .int .u8 0, .int .u8 0, .int .u8 0, .int .u8 0, .int .u8 0, .int .u8 0, .int .u8 0, .int .u8 0, .int .u8 0, .int .u8 0] : Value), 32) := by kernel_rfl
theorem un32 : Try.prog.underlying 32 = some (.int .u32) := Try.underlying32
theorem on32 : isOne Try.prog 32 = true := by kernel_rfl
theorem sz32 : (Try.prog.info? 32).map (·.size) = some 1 := by kernel_rfl
theorem zr32 : (Try.prog.info? 32).map (·.zero) = some (some (.int .u32 0 : Value)) := by kernel_rfl
theorem zs32 : (Try.prog.info? 32).map (fun i => (i.zero, i.size)) = some (some (.int .u32 0 : Value), 1) := by kernel_rfl
theorem ag33 : aggB Try.prog 33 55 = true := by kernel_rfl
theorem sz33 : (Try.prog.info? 33).map (·.size) = some 55 := by kernel_rfl
theorem fo33_0 : fieldOff Try.prog 33 0 = some 0 := by kernel_rfl
theorem fo33_1 : fieldOff Try.prog 33 1 = some 1 := by kernel_rfl
theorem fo33_2 : fieldOff Try.prog 33 2 = some 17 := by kernel_rfl
theorem fo33_3 : fieldOff Try.prog 33 3 = some 19 := by kernel_rfl
theorem fo33_4 : fieldOff Try.prog 33 4 = some 20 := by kernel_rfl
theorem fo33_5 : fieldOff Try.prog 33 5 = some 52 := by kernel_rfl
theorem fo33_6 : fieldOff Try.prog 33 6 = some 53 := by kernel_rfl
theorem fo33_7 : fieldOff Try.prog 33 7 = some 54 := by kernel_rfl
theorem zr33 : (Try.prog.info? 33).map (·.zero) = some (some (.agg #[.int .u8 0, .int .u8 0, .int .u8 0, .int .u8 0, .int .u8 0, .int .u8 0, .int .u8 0, .int .u8 0, .int .u8 0, .int .u8 0, .int .u8 0, .int .u8 0, .int .u8 0, .int .u8 0, .int .u8 0, .int .u8 0, .int .u8 0, .int .u8 0, .int .u8 0, .int .u8 0, .int .u8 0, .int .u8 0, .int .u8 0, .int .u8 0, .int .u8 0, .int .u8 0, .int .u8 0, .int .u8 0, .int .u8 0, .int .u8 0, .int .u8 0, .int .u8 0, .int .u8 0, .int .u8 0, .int .u8 0, .int .u8 0, .int .u8 0, .int .u8 0, .int .u8 0, .int .u8 0, .int .u8 0, .int .u8 0, .int .u8 0, .int .u8 0, .int .u8 0, .int .u8 0, .int .u8 0, .int .u8 0, .int .u8 0, .int .u8 0, .int .u8 0, .int .u8 0, .int .u32 0, .slice none 0 0, .int .u8 0] : Value)) := by kernel_rfl
theorem zs33 : (Try.prog.info? 33).map (fun i => (i.zero, i.size)) = some (some (.agg #[.int .u8 0, .int .u8 0, .int .u8 0, .int .u8 0, .int .u8 0, .int .u8 0, .int .u8 0, .int .u8 0, .int .u8 0, .int .u8 0, .int .u8 0, .int .u8 0, .int .u8 0, .int .u8 0, .int .u8 0, .int .u8 0, .int .u8 0, .int .u8 0, .int .u8 0, .int .u8 0, .int .u8 0, .int .u8 0, .int .u8 0, .int .u8 0, .int .u8 0, .int .u8 0, .int .u8 0, .int .u8 0, .int .u8 0, .int .u8 0, .int .u8 0, .int .u8 0, .int .u8 0, .int .u8 0, .int .u8 0, .int .u8 0, .int .u8 0, .int .u8 0, .int .u8 0, .int .u8 0, .int .u8 0, .int .u8 0, .int .u8 0, .int .u8 0, .int .u8 0, .int .u8 0, .int .u8 0, .int .u8 0, .int .u8 0, .int .u8 0, .int .u8 0, .int .u8 0, .int .u32 0, .slice none 0 0, .int .u8 0] : Value), 55) := by kernel_rfl
theorem ag34 : aggB Try.prog 34 55 = true := by kernel_rfl
theorem sz34 : (Try.prog.info? 34).map (·.size) = some 55 := by kernel_rfl
theorem fo34_0 : fieldOff Try.prog 34 0 = some 0 := by kernel_rfl
theorem fo34_1 : fieldOff Try.prog 34 1 = some 1 := by kernel_rfl
theorem fo34_2 : fieldOff Try.prog 34 2 = some 17 := by kernel_rfl
theorem fo34_3 : fieldOff Try.prog 34 3 = some 19 := by kernel_rfl
theorem fo34_4 : fieldOff Try.prog 34 4 = some 20 := by kernel_rfl
theorem fo34_5 : fieldOff Try.prog 34 5 = some 52 := by kernel_rfl
theorem fo34_6 : fieldOff Try.prog 34 6 = some 53 := by kernel_rfl
theorem fo34_7 : fieldOff Try.prog 34 7 = some 54 := by kernel_rfl
theorem zr34 : (Try.prog.info? 34).map (·.zero) = some (some (.agg #[.int .u8 0, .int .u8 0, .int .u8 0, .int .u8 0, .int .u8 0, .int .u8 0, .int .u8 0, .int .u8 0, .int .u8 0, .int .u8 0, .int .u8 0, .int .u8 0, .int .u8 0, .int .u8 0, .int .u8 0, .int .u8 0, .int .u8 0, .int .u8 0, .int .u8 0, .int .u8 0, .int .u8 0, .int .u8 0, .int .u8 0, .int .u8 0, .int .u8 0, .int .u8 0, .int .u8 0, .int .u8 0, .int .u8 0, .int .u8 0, .int .u8 0, .int .u8 0, .int .u8 0, .int .u8 0, .int .u8 0, .int .u8 0, .int .u8 0, .int .u8 0, .int .u8 0, .int .u8 0, .int .u8 0, .int .u8 0, .int .u8 0, .int .u8 0, .int .u8 0, .int .u8 0, .int .u8 0, .int .u8 0, .int .u8 0, .int .u8 0, .int .u8 0, .int .u8 0, .int .u32 0, .slice none 0 0, .int .u8 0] : Value)) := by kernel_rfl
theorem zs34 : (Try.prog.info? 34).map (fun i => (i.zero, i.size)) = some (some (.agg #[.int .u8 0, .int .u8 0, .int .u8 0, .int .u8 0, .int .u8 0, .int .u8 0, .int .u8 0, .int .u8 0, .int .u8 0, .int .u8 0, .int .u8 0, .int .u8 0, .int .u8 0, .int .u8 0, .int .u8 0, .int .u8 0, .int .u8 0, .int .u8 0, .int .u8 0, .int .u8 0, .int .u8 0, .int .u8 0, .int .u8 0, .int .u8 0, .int .u8 0, .int .u8 0, .int .u8 0, .int .u8 0, .int .u8 0, .int .u8 0, .int .u8 0, .int .u8 0, .int .u8 0, .int .u8 0, .int .u8 0, .int .u8 0, .int .u8 0, .int .u8 0, .int .u8 0, .int .u8 0, .int .u8 0, .int .u8 0, .int .u8 0, .int .u8 0, .int .u8 0, .int .u8 0, .int .u8 0, .int .u8 0, .int .u8 0, .int .u8 0, .int .u8 0, .int .u8 0, .int .u32 0, .slice none 0 0, .int .u8 0] : Value), 55) := by kernel_rfl
theorem on35 : isOne Try.prog 35 = true := by kernel_rfl
theorem sz35 : (Try.prog.info? 35).map (·.size) = some 1 := by kernel_rfl
theorem zr35 : (Try.prog.info? 35).map (·.zero) = some (some (.nilFunc : Value)) := by kernel_rfl
theorem zs35 : (Try.prog.info? 35).map (fun i => (i.zero, i.size)) = some (some (.nilFunc : Value), 1) := by kernel_rfl
theorem on37 : isOne Try.prog 37 = true := by kernel_rfl
theorem sz37 : (Try.prog.info? 37).map (·.size) = some 1 := by kernel_rfl
theorem zr37 : (Try.prog.info? 37).map (·.zero) = some (some (.nilFunc : Value)) := by kernel_rfl
theorem zs37 : (Try.prog.info? 37).map (fun i => (i.zero, i.size)) = some (some (.nilFunc : Value), 1) := by kernel_rfl
theorem on38 : isOne Try.prog 38 = true := by kernel_rfl
theorem sz38 : (Try.prog.info? 38).map (·.size) = some 1 := by kernel_rfl
theorem zr38 : (Try.prog.info? 38).map (·.zero) = some (some (.nilFunc : Value)) := by kernel_rfl
theorem zs38 : (Try.prog.info? 38).map (fun i => (i.zero, i.size)) = some (some (.nilFunc : Value), 1) := by kernel_rfl
theorem on39 : isOne Try.prog 39 = true := by kernel_rfl
theorem sz39 : (Try.prog.info? 39).map (·.size) = some 1 := by kernel_rfl
theorem zr39 : (Try.prog.info? 39).map (·.zero) = some (some (.nilFunc : Value)) := by kernel_rfl
theorem zs39 : (Try.prog.info? 39).map (fun i => (i.zero, i.size)) = some (some (.nilFunc : Value), 1) := by kernel_rfl
theorem on41 : isOne Try.prog 41 = true := by kernel_rfl
theorem sz41 : (Try.prog.info? 41).map (·.size) = some 1 := by kernel_rfl
theorem zr41 : (Try.prog.info? 41).map (·.zero) = some (some (.nilFunc : Value)) := by kernel_rfl
theorem zs41 : (Try.prog.info? 41).map (fun i => (i.zero, i.size)) = some (some (.nilFunc : Value), 1) := by kernel_rfl
theorem on42 : isOne Try.prog 42 = true := by kernel_rfl
theorem sz42 : (Try.prog.info? 42).map (·.size) = some 1 := by kernel_rfl
theorem zr42 : (Try.prog.info? 42).map (·.zero) = some (some (.nilFunc : Value)) := by kernel_rfl
theorem zs42 : (Try.prog.info? 42).map (fun i => (i.zero, i.size)) = some (some (.nilFunc : Value), 1) := by kernel_rfl
theorem on43 : isOne Try.prog 43 = true := by kernel_rfl
theorem sz43 : (Try.prog.info? 43).map (·.size) = some 1 := by kernel_rfl
theorem zr43 : (Try.prog.info? 43).map (·.zero) = some (some (.nilFunc : Value)) := by kernel_rfl
theorem zs43 : (Try.prog.info? 43).map (fun i => (i.zero, i.size)) = some (some (.nilFunc : Value), 1) := by kernel_rfl
theorem un44 : Try.prog.underlying 44 = some (.int .u16) := Try.underlying44
theorem on44 : isOne Try.prog 44 = true := by kernel_rfl
theorem sz44 : (Try.prog.info? 44).map (·.size) = some 1 := by kernel_rfl
theorem zr44 : (Try.prog.info? 44).map (·.zero) = some (some (.int .u16 0 : Value)) := by kernel_rfl
theorem zs44 : (Try.prog.info? 44).map (fun i => (i.zero, i.size)) = some (some (.int .u16 0 : Value), 1) := by kernel_rfl
theorem on45 : isOne Try.prog 45 = true := by kernel_rfl
theorem sz45 : (Try.prog.info? 45).map (·.size) = some 1 := by kernel_rfl
theorem zr45 : (Try.prog.info? 45).map (·.zero) = some (some (.nilFunc : Value)) := by kernel_rfl
theorem zs45 : (Try.prog.info? 45).map (fun i => (i.zero, i.size)) = some (some (.nilFunc : Value), 1) := by kernel_rfl
theorem un46 : Try.prog.underlying 46 = some (.pointer 70) := Try.underlying46
theorem on46 : isOne Try.prog 46 = true := by kernel_rfl
theorem sz46 : (Try.prog.info? 46).map (·.size) = some 1 := by kernel_rfl
theorem zr46 : (Try.prog.info? 46).map (·.zero) = some (some (.pointer none : Value)) := by kernel_rfl
theorem zs46 : (Try.prog.info? 46).map (fun i => (i.zero, i.size)) = some (some (.pointer none : Value), 1) := by kernel_rfl
theorem on47 : isOne Try.prog 47 = true := by kernel_rfl
theorem sz47 : (Try.prog.info? 47).map (·.size) = some 1 := by kernel_rfl
theorem zr47 : (Try.prog.info? 47).map (·.zero) = some (some (.nilFunc : Value)) := by kernel_rfl
theorem zs47 : (Try.prog.info? 47).map (fun i => (i.zero, i.size)) = some (some (.nilFunc : Value), 1) := by kernel_rfl
theorem on48 : isOne Try.prog 48 = true := by kernel_rfl
theorem sz48 : (Try.prog.info? 48).map (·.size) = some 1 := by kernel_rfl
theorem zr48 : (Try.prog.info? 48).map (·.zero) = some (some (.nilFunc : Value)) := by kernel_rfl
theorem zs48 : (Try.prog.info? 48).map (fun i => (i.zero, i.size)) = some (some (.nilFunc : Value), 1) := by kernel_rfl
theorem on49 : isOne Try.prog 49 = true := by kernel_rfl
theorem sz49 : (Try.prog.info? 49).map (·.size) = some 1 := by kernel_rfl
theorem zr49 : (Try.prog.info? 49).map (·.zero) = some (some (.nilFunc : Value)) := by kernel_rfl
theorem zs49 : (Try.prog.info? 49).map (fun i => (i.zero, i.size)) = some (some (.nilFunc : Value), 1) := by kernel_rfl
theorem on50 : isOne Try.prog 50 = true := by kernel_rfl
theorem sz50 : (Try.prog.info? 50).map (·.size) = some 1 := by kernel_rfl
theorem zr50 : (Try.prog.info? 50).map (·.zero) = some (some (.nilFunc : Value)) := by kernel_rfl
theorem zs50 : (Try.prog.info? 50).map (fun i => (i.zero, i.size)) = some (some (.nilFunc : Value), 1) := by kernel_rfl
theorem on51 : isOne Try.prog 51 = true := by kernel_rfl
theorem sz51 : (Try.prog.info? 51).map (·.size) = some 1 := by kernel_rfl
theorem zr51 : (Try.prog.info? 51).map (·.zero) = some (some (.nilFunc : Value)) := by kernel_rfl
theorem zs51 : (Try.prog.info? 51).map (fun i => (i.zero, i.size)) = some (some (.nilFunc : Value), 1) := by kernel_rfl
theorem ag52 : aggB Try.prog 52 2 = true := by kernel_rfl
theorem sz52 : (Try.prog.info? 52).map (·.size) = some 2 := by kernel_rfl
theorem fo52_0 : fieldOff Try.prog 52 0 = some 0 := by kernel_rfl
theorem fo52_1 : fieldOff Try.prog 52 1 = some 1 := by kernel_rfl
theorem zr52 : (Try.prog.info? 52).map (·.zero) = some (some (.agg #[.nilFunc, .nilFunc] : Value)) := by kernel_rfl
theorem zs52 : (Try.prog.info? 52).map (fun i => (i.zero, i.size)) = some (some (.agg #[.nilFunc, .nilFunc] : Value), 2) := by kernel_rfl
theorem ag53 : aggB Try.prog 53 2 = true := by kernel_rfl
theorem sz53 : (Try.prog.info? 53).map (·.size) = some 2 := by kernel_rfl
theorem fo53_0 : fieldOff Try.prog 53 0 = some 0 := by kernel_rfl
theorem fo53_1 : fieldOff Try.prog 53 1 = some 1 := by kernel_rfl
theorem zr53 : (Try.prog.info? 53).map (·.zero) = some (some (.agg #[.nilFunc, .nilFunc] : Value)) := by kernel_rfl
theorem zs53 : (Try.prog.info? 53).map (fun i => (i.zero, i.size)) = some (some (.agg #[.nilFunc, .nilFunc] : Value), 2) := by kernel_rfl
theorem on54 : isOne Try.prog 54 = true := by kernel_rfl
theorem sz54 : (Try.prog.info? 54).map (·.size) = some 1 := by kernel_rfl
theorem zr54 : (Try.prog.info? 54).map (·.zero) = some (some (.nilFunc : Value)) := by kernel_rfl
theorem zs54 : (Try.prog.info? 54).map (fun i => (i.zero, i.size)) = some (some (.nilFunc : Value), 1) := by kernel_rfl
theorem on55 : isOne Try.prog 55 = true := by kernel_rfl
theorem sz55 : (Try.prog.info? 55).map (·.size) = some 1 := by kernel_rfl
theorem zr55 : (Try.prog.info? 55).map (·.zero) = some (some (.nilFunc : Value)) := by kernel_rfl
theorem zs55 : (Try.prog.info? 55).map (fun i => (i.zero, i.size)) = some (some (.nilFunc : Value), 1) := by kernel_rfl
theorem un56 : Try.prog.underlying 56 = some (.pointer 76) := Try.underlying56
theorem on56 : isOne Try.prog 56 = true := by kernel_rfl
theorem sz56 : (Try.prog.info? 56).map (·.size) = some 1 := by kernel_rfl
theorem zr56 : (Try.prog.info? 56).map (·.zero) = some (some (.pointer none : Value)) := by kernel_rfl
theorem zs56 : (Try.prog.info? 56).map (fun i => (i.zero, i.size)) = some (some (.pointer none : Value), 1) := by kernel_rfl
theorem on57 : isOne Try.prog 57 = true := by kernel_rfl
theorem sz57 : (Try.prog.info? 57).map (·.size) = some 1 := by kernel_rfl
theorem zr57 : (Try.prog.info? 57).map (·.zero) = some (some (.nilFunc : Value)) := by kernel_rfl
theorem zs57 : (Try.prog.info? 57).map (fun i => (i.zero, i.size)) = some (some (.nilFunc : Value), 1) := by kernel_rfl
theorem on58 : isOne Try.prog 58 = true := by kernel_rfl
theorem sz58 : (Try.prog.info? 58).map (·.size) = some 1 := by kernel_rfl
theorem zr58 : (Try.prog.info? 58).map (·.zero) = some (some (.nilFunc : Value)) := by kernel_rfl
theorem zs58 : (Try.prog.info? 58).map (fun i => (i.zero, i.size)) = some (some (.nilFunc : Value), 1) := by kernel_rfl
theorem on59 : isOne Try.prog 59 = true := by kernel_rfl
theorem sz59 : (Try.prog.info? 59).map (·.size) = some 1 := by kernel_rfl
theorem zr59 : (Try.prog.info? 59).map (·.zero) = some (some (.nilFunc : Value)) := by kernel_rfl
theorem zs59 : (Try.prog.info? 59).map (fun i => (i.zero, i.size)) = some (some (.nilFunc : Value), 1) := by kernel_rfl
theorem un60 : Try.prog.underlying 60 = some (.pointer 34) := Try.underlying60
theorem on60 : isOne Try.prog 60 = true := by kernel_rfl
theorem sz60 : (Try.prog.info? 60).map (·.size) = some 1 := by kernel_rfl
theorem zr60 : (Try.prog.info? 60).map (·.zero) = some (some (.pointer none : Value)) := by kernel_rfl
theorem zs60 : (Try.prog.info? 60).map (fun i => (i.zero, i.size)) = some (some (.pointer none : Value), 1) := by kernel_rfl
theorem on61 : isOne Try.prog 61 = true := by kernel_rfl
theorem sz61 : (Try.prog.info? 61).map (·.size) = some 1 := by kernel_rfl
theorem zr61 : (Try.prog.info? 61).map (·.zero) = some (some (.nilFunc : Value)) := by kernel_rfl
theorem zs61 : (Try.prog.info? 61).map (fun i => (i.zero, i.size)) = some (some (.nilFunc : Value), 1) := by kernel_rfl
theorem on62 : isOne Try.prog 62 = true := by kernel_rfl
theorem sz62 : (Try.prog.info? 62).map (·.size) = some 1 := by kernel_rfl
theorem zr62 : (Try.prog.info? 62).map (·.zero) = some (some (.nilFunc : Value)) := by kernel_rfl
theorem zs62 : (Try.prog.info? 62).map (fun i => (i.zero, i.size)) = some (some (.nilFunc : Value), 1) := by kernel_rfl
theorem on63 : isOne Try.prog 63 = true := by kernel_rfl
theorem sz63 : (Try.prog.info? 63).map (·.size) = some 1 := by kernel_rfl
theorem zr63 : (Try.prog.info? 63).map (·.zero) = some (some (.nilFunc : Value)) := by kernel_rfl
theorem zs63 : (Try.prog.info? 63).map (fun i => (i.zero, i.size)) = some (some (.nilFunc : Value), 1) := by kernel_rfl
theorem on64 : isOne Try.prog 64 = true := by kernel_rfl
theorem sz64 : (Try.prog.info? 64).map (·.size) = some 1 := by kernel_rfl
theorem zr64 : (Try.prog.info? 64).map (·.zero) = some (some (.nilFunc : Value)) := by kernel_rfl
theorem zs64 : (Try.prog.info? 64).map (fun i => (i.zero, i.size)) = some (some (.nilFunc : Value), 1) := by kernel_rfl
theorem un65 : Try.prog.underlying 65 = some (.int .u64) := Try.underlying65
theorem on65 : isOne Try.prog 65 = true := by kernel_rfl
theorem sz65 : (Try.prog.info? 65).map (·.size) = some 1 := by kernel_rfl
theorem zr65 : (Try.prog.info? 65).map (·.zero) = some (some (.int .u64 0 : Value)) := by kernel_rfl
theorem zs65 : (Try.prog.info? 65).map (fun i => (i.zero, i.size)) = some (some (.int .u64 0 : Value), 1) := by kernel_rfl
theorem on66 : isOne Try.prog 66 = true := by kernel_rfl
theorem sz66 : (Try.prog.info? 66).map (·.size) = some 1 := by kernel_rfl
theorem zr66 : (Try.prog.info? 66).map (·.zero) = some (some (.nilFunc : Value)) := by kernel_rfl
theorem zs66 : (Try.prog.info? 66).map (fun i => (i.zero, i.size)) = some (some (.nilFunc : Value), 1) := by kernel_rfl
theorem on67 : isOne Try.prog 67 = true := by kernel_rfl
theorem sz67 : (Try.prog.info? 67).map (·.size) = some 1 := by kernel_rfl
theorem zr67 : (Try.prog.info? 67).map (·.zero) = some (some (.nilFunc : Value)) := by kernel_rfl
theorem zs67 : (Try.prog.info? 67).map (fun i => (i.zero, i.size)) = some (some (.nilFunc : Value), 1) := by kernel_rfl
theorem on68 : isOne Try.prog 68 = true := by kernel_rfl
theorem sz68 : (Try.prog.info? 68).map (·.size) = some 1 := by kernel_rfl
theorem zr68 : (Try.prog.info? 68).map (·.zero) = some (some (.nilFunc : Value)) := by kernel_rfl
theorem zs68 : (Try.prog.info? 68).map (fun i => (i.zero, i.size)) = some (some (.nilFunc : Value), 1) := by kernel_rfl
theorem ag69 : aggB Try.prog 69 3 = true := by kernel_rfl
theorem sz69 : (Try.prog.info? 69).map (·.size) = some 3 := by kernel_rfl
theorem fo69_0 : fieldOff Try.prog 69 0 = some 0 := by kernel_rfl
theorem fo69_1 : fieldOff Try.prog 69 1 = some 1 := by kernel_rfl
theorem fo69_2 : fieldOff Try.prog 69 2 = some 2 := by kernel_rfl
theorem zr69 : (Try.prog.info? 69).map (·.zero) = some (some (.agg #[.slice none 0 0, .int .i64 0, .bool false] : Value)) := by kernel_rfl
theorem zs69 : (Try.prog.info? 69).map (fun i => (i.zero, i.size)) = some (some (.agg #[.slice none 0 0, .int .i64 0, .bool false] : Value), 3) := by kernel_rfl
theorem ag70 : aggB Try.prog 70 3 = true := by kernel_rfl
theorem sz70 : (Try.prog.info? 70).map (·.size) = some 3 := by kernel_rfl
theorem fo70_0 : fieldOff Try.prog 70 0 = some 0 := by kernel_rfl
theorem fo70_1 : fieldOff Try.prog 70 1 = some 1 := by kernel_rfl
theorem fo70_2 : fieldOff Try.prog 70 2 = some 2 := by kernel_rfl
theorem zr70 : (Try.prog.info? 70).map (·.zero) = some (some (.agg #[.slice none 0 0, .int .i64 0, .bool false] : Value)) := by kernel_rfl
theorem zs70 : (Try.prog.info? 70).map (fun i => (i.zero, i.size)) = some (some (.agg #[.slice none 0 0, .int .i64 0, .bool false] : Value), 3) := by kernel_rfl
theorem un71 : Try.prog.underlying 71 = some (.slice 22) := Try.underlying71
theorem on71 : isOne Try.prog 71 = true := by kernel_rfl
theorem sz71 : (Try.prog.info? 71).map (·.size) = some 1 := by kernel_rfl
theorem zr71 : (Try.prog.info? 71).map (·.zero) = some (some (.slice none 0 0 : Value)) := by kernel_rfl
theorem zs71 : (Try.prog.info? 71).map (fun i => (i.zero, i.size)) = some (some (.slice none 0 0 : Value), 1) := by kernel_rfl
theorem on72 : isOne Try.prog 72 = true := by kernel_rfl
theorem sz72 : (Try.prog.info? 72).map (·.size) = some 1 := by kernel_rfl
theorem zr72 : (Try.prog.info? 72).map (·.zero) = some (some (.nilFunc : Value)) := by kernel_rfl
theorem zs72 : (Try.prog.info? 72).map (fun i => (i.zero, i.size)) = some (some (.nilFunc : Value), 1) := by kernel_rfl
theorem on73 : isOne Try.prog 73 = true := by kernel_rfl
theorem sz73 : (Try.prog.info? 73).map (·.size) = some 1 := by kernel_rfl
theorem zr73 : (Try.prog.info? 73).map (·.zero) = some (some (.nilFunc : Value)) := by kernel_rfl
theorem zs73 : (Try.prog.info? 73).map (fun i => (i.zero, i.size)) = some (some (.nilFunc : Value), 1) := by kernel_rfl
theorem on74 : isOne Try.prog 74 = true := by kernel_rfl
theorem sz74 : (Try.prog.info? 74).map (·.size) = some 1 := by kernel_rfl
theorem zr74 : (Try.prog.info? 74).map (·.zero) = some (some (.nilFunc : Value)) := by kernel_rfl
theorem zs74 : (Try.prog.info? 74).map (fun i => (i.zero, i.size)) = some (some (.nilFunc : Value), 1) := by kernel_rfl
theorem ag75 : aggB Try.prog 75 2 = true := by kernel_rfl
theorem sz75 : (Try.prog.info? 75).map (·.size) = some 2 := by kernel_rfl
theorem fo75_0 : fieldOff Try.prog 75 0 = some 0 := by kernel_rfl
theorem fo75_1 : fieldOff Try.prog 75 1 = some 1 := by kernel_rfl
theorem zr75 : (Try.prog.info? 75).map (·.zero) = some (some (.agg #[.slice none 0 0, .bool false] : Value)) := by kernel_rfl
theorem zs75 : (Try.prog.info? 75).map (fun i => (i.zero, i.size)) = some (some (.agg #[.slice none 0 0, .bool false] : Value), 2) := by kernel_rfl
theorem ag76 : aggB Try.prog 76 2 = true := by kernel_rfl
theorem sz76 : (Try.prog.info? 76).map (·.size) = some 2 := by kernel_rfl
theorem fo76_0 : fieldOff Try.prog 76 0 = some 0 := by kernel_rfl
theorem fo76_1 : fieldOff Try.prog 76 1 = some 1 := by kernel_rfl
theorem zr76 : (Try.prog.info? 76).map (·.zero) = some (some (.agg #[.slice none 0 0, .bool false] : Value)) := by kernel_rfl
theorem zs76 : (Try.prog.info? 76).map (fun i => (i.zero, i.size)) = some (some (.agg #[.slice none 0 0, .bool false] : Value), 2) := by kernel_rfl
theorem on77 : isOne Try.prog 77 = true := by kernel_rfl
theorem sz77 : (Try.prog.info? 77).map (·.size) = some 1 := by kernel_rfl
theorem zr77 : (Try.prog.info? 77).map (·.zero) = some (some (.nilFunc : Value)) := by kernel_rfl
theorem zs77 : (Try.prog.info? 77).map (fun i => (i.zero, i.size)) = some (some (.nilFunc : Value), 1) := by kernel_rfl
theorem un78 : Try.prog.underlying 78 = some (.slice 32) := Try.underlying78
theorem on78 : isOne Try.prog 78 = true := by kernel_rfl
theorem sz78 : (Try.prog.info? 78).map (·.size) = some 1 := by kernel_rfl
theorem zr78 : (Try.prog.info? 78).map (·.zero) = some (some (.slice none 0 0 : Value)) := by kernel_rfl
theorem zs78 : (Try.prog.info? 78).map (fun i => (i.zero, i.size)) = some (some (.slice none 0 0 : Value), 1) := by kernel_rfl
theorem on79 : isOne Try.prog 79 = true := by kernel_rfl
theorem sz79 : (Try.prog.info? 79).map (·.size) = some 1 := by kernel_rfl
theorem zr79 : (Try.prog.info? 79).map (·.zero) = some (some (.nilFunc : Value)) := by kernel_rfl
theorem zs79 : (Try.prog.info? 79).map (fun i => (i.zero, i.size)) = some (some (.nilFunc : Value), 1) := by kernel_rfl
theorem on80 : isOne Try.prog 80 = true := by kernel_rfl
theorem sz80 : (Try.prog.info? 80).map (·.size) = some 1 := by kernel_rfl
theorem zr80 : (Try.prog.info? 80).map (·.zero) = some (some (.nilFunc : Value)) := by kernel_rfl
theorem zs80 : (Try.prog.info? 80).map (fun i => (i.zero, i.size)) = some (some (.nilFunc : Value), 1) := by kernel_rfl
theorem on81 : isOne Try.prog 81 = true := by kernel_rfl
theorem sz81 : (Try.prog.info? 81).map (·.size) = some 1 := by kernel_rfl
theorem zr81 : (Try.prog.info? 81).map (·.zero) = some (some (.nilFunc : Value)) := by kernel_rfl
theorem zs81 : (Try.prog.info? 81).map (fun i => (i.zero, i.size)) = some (some (.nilFunc : Value), 1) := by kernel_rfl
theorem un82 : Try.prog.underlying 82 = some (.int .u64) := Try.underlying82
theorem on82 : isOne Try.prog 82 = true := by kernel_rfl
theorem sz82 : (Try.prog.info? 82).map (·.size) = some 1 := by kernel_rfl
theorem zr82 : (Try.prog.info? 82).map (·.zero) = some (some (.int .u64 0 : Value)) := by kernel_rfl
theorem zs82 : (Try.prog.info? 82).map (fun i => (i.zero, i.size)) = some (some (.int .u64 0 : Value), 1) := by kernel_rfl
theorem on83 : isOne Try.prog 83 = true := by kernel_rfl
theorem sz83 : (Try.prog.info? 83).map (·.size) = some 1 := by kernel_rfl
theorem zr83 : (Try.prog.info? 83).map (·.zero) = some (some (.nilFunc : Value)) := by kernel_rfl
theorem zs83 : (Try.prog.info? 83).map (fun i => (i.zero, i.size)) = some (some (.nilFunc : Value), 1) := by kernel_rfl
theorem on84 : isOne Try.prog 84 = true := by kernel_rfl
theorem sz84 : (Try.prog.info? 84).map (·.size) = some 1 := by kernel_rfl
theorem zr84 : (Try.prog.info? 84).map (·.zero) = some (some (.nilFunc : Value)) := by kernel_rfl
theorem zs84 : (Try.prog.info? 84).map (fun i => (i.zero, i.size)) = some (some (.nilFunc : Value), 1) := by kernel_rfl
theorem ag85 : aggB Try.prog 85 4 = true := by kernel_rfl
theorem sz85 : (Try.prog.info? 85).map (·.size) = some 4 := by kernel_rfl
theorem fo85_0 : fieldOff Try.prog 85 0 = some 0 := by kernel_rfl
theorem fo85_1 : fieldOff Try.prog 85 1 = some 1 := by kernel_rfl
theorem fo85_2 : fieldOff Try.prog 85 2 = some 2 := by kernel_rfl
theorem fo85_3 : fieldOff Try.prog 85 3 = some 3 := by kernel_rfl
theorem zr85 : (Try.prog.info? 85).map (·.zero) = some (some (.agg #[.pointer none, .pointer none, .pointer none, .string ByteArray.empty] : Value)) := by kernel_rfl
theorem zs85 : (Try.prog.info? 85).map (fun i => (i.zero, i.size)) = some (some (.agg #[.pointer none, .pointer none, .pointer none, .string ByteArray.empty] : Value), 4) := by kernel_rfl
theorem ag86 : aggB Try.prog 86 4 = true := by kernel_rfl
theorem sz86 : (Try.prog.info? 86).map (·.size) = some 4 := by kernel_rfl
theorem fo86_0 : fieldOff Try.prog 86 0 = some 0 := by kernel_rfl
theorem fo86_1 : fieldOff Try.prog 86 1 = some 1 := by kernel_rfl
theorem fo86_2 : fieldOff Try.prog 86 2 = some 2 := by kernel_rfl
theorem fo86_3 : fieldOff Try.prog 86 3 = some 3 := by kernel_rfl
theorem zr86 : (Try.prog.info? 86).map (·.zero) = some (some (.agg #[.pointer none, .pointer none, .pointer none, .string ByteArray.empty] : Value)) := by kernel_rfl
theorem zs86 : (Try.prog.info? 86).map (fun i => (i.zero, i.size)) = some (some (.agg #[.pointer none, .pointer none, .pointer none, .string ByteArray.empty] : Value), 4) := by kernel_rfl
theorem un87 : Try.prog.underlying 87 = some (.array 0 16) := Try.underlying87
theorem sz87 : (Try.prog.info? 87).map (·.size) = some 0 := by kernel_rfl
theorem sz88 : (Try.prog.info? 88).map (·.size) = some 0 := by kernel_rfl
theorem sz89 : (Try.prog.info? 89).map (·.size) = some 0 := by kernel_rfl
theorem on90 : isOne Try.prog 90 = true := by kernel_rfl
theorem sz90 : (Try.prog.info? 90).map (·.size) = some 1 := by kernel_rfl
theorem zr90 : (Try.prog.info? 90).map (·.zero) = some (some (.nilFunc : Value)) := by kernel_rfl
theorem zs90 : (Try.prog.info? 90).map (fun i => (i.zero, i.size)) = some (some (.nilFunc : Value), 1) := by kernel_rfl
theorem un91 : Try.prog.underlying 91 = some (.int .u8) := Try.underlying91
theorem on91 : isOne Try.prog 91 = true := by kernel_rfl
theorem sz91 : (Try.prog.info? 91).map (·.size) = some 1 := by kernel_rfl
theorem zr91 : (Try.prog.info? 91).map (·.zero) = some (some (.int .u8 0 : Value)) := by kernel_rfl
theorem zs91 : (Try.prog.info? 91).map (fun i => (i.zero, i.size)) = some (some (.int .u8 0 : Value), 1) := by kernel_rfl
theorem un92 : Try.prog.underlying 92 = some (.int .u8) := Try.underlying92
theorem on92 : isOne Try.prog 92 = true := by kernel_rfl
theorem sz92 : (Try.prog.info? 92).map (·.size) = some 1 := by kernel_rfl
theorem zr92 : (Try.prog.info? 92).map (·.zero) = some (some (.int .u8 0 : Value)) := by kernel_rfl
theorem zs92 : (Try.prog.info? 92).map (fun i => (i.zero, i.size)) = some (some (.int .u8 0 : Value), 1) := by kernel_rfl
theorem on93 : isOne Try.prog 93 = true := by kernel_rfl
theorem sz93 : (Try.prog.info? 93).map (·.size) = some 1 := by kernel_rfl
theorem zr93 : (Try.prog.info? 93).map (·.zero) = some (some (.nilFunc : Value)) := by kernel_rfl
theorem zs93 : (Try.prog.info? 93).map (fun i => (i.zero, i.size)) = some (some (.nilFunc : Value), 1) := by kernel_rfl
theorem un94 : Try.prog.underlying 94 = some (.pointer 5) := Try.underlying94
theorem on94 : isOne Try.prog 94 = true := by kernel_rfl
theorem sz94 : (Try.prog.info? 94).map (·.size) = some 1 := by kernel_rfl
theorem zr94 : (Try.prog.info? 94).map (·.zero) = some (some (.pointer none : Value)) := by kernel_rfl
theorem zs94 : (Try.prog.info? 94).map (fun i => (i.zero, i.size)) = some (some (.pointer none : Value), 1) := by kernel_rfl
theorem un95 : Try.prog.underlying 95 = some (.int .i32) := Try.underlying95
theorem on95 : isOne Try.prog 95 = true := by kernel_rfl
theorem sz95 : (Try.prog.info? 95).map (·.size) = some 1 := by kernel_rfl
theorem zr95 : (Try.prog.info? 95).map (·.zero) = some (some (.int .i32 0 : Value)) := by kernel_rfl
theorem zs95 : (Try.prog.info? 95).map (fun i => (i.zero, i.size)) = some (some (.int .i32 0 : Value), 1) := by kernel_rfl
theorem un96 : Try.prog.underlying 96 = some (.int .i32) := Try.underlying96
theorem on96 : isOne Try.prog 96 = true := by kernel_rfl
theorem sz96 : (Try.prog.info? 96).map (·.size) = some 1 := by kernel_rfl
theorem zr96 : (Try.prog.info? 96).map (·.zero) = some (some (.int .i32 0 : Value)) := by kernel_rfl
theorem zs96 : (Try.prog.info? 96).map (fun i => (i.zero, i.size)) = some (some (.int .i32 0 : Value), 1) := by kernel_rfl
theorem ag97 : aggB Try.prog 97 11 = true := by kernel_rfl
theorem sz97 : (Try.prog.info? 97).map (·.size) = some 11 := by kernel_rfl
theorem fo97_0 : fieldOff Try.prog 97 0 = some 0 := by kernel_rfl
theorem fo97_1 : fieldOff Try.prog 97 1 = some 1 := by kernel_rfl
theorem fo97_2 : fieldOff Try.prog 97 2 = some 2 := by kernel_rfl
theorem fo97_3 : fieldOff Try.prog 97 3 = some 3 := by kernel_rfl
theorem fo97_4 : fieldOff Try.prog 97 4 = some 4 := by kernel_rfl
theorem fo97_5 : fieldOff Try.prog 97 5 = some 5 := by kernel_rfl
theorem fo97_6 : fieldOff Try.prog 97 6 = some 6 := by kernel_rfl
theorem fo97_7 : fieldOff Try.prog 97 7 = some 7 := by kernel_rfl
theorem fo97_8 : fieldOff Try.prog 97 8 = some 8 := by kernel_rfl
theorem fo97_9 : fieldOff Try.prog 97 9 = some 9 := by kernel_rfl
theorem fo97_10 : fieldOff Try.prog 97 10 = some 10 := by kernel_rfl
theorem zr97 : (Try.prog.info? 97).map (·.zero) = some (some (.agg #[.int .u64 0, .int .u64 0, .int .u32 0, .int .u8 0, .int .u8 0, .int .u8 0, .int .u8 0, .nilFunc, .pointer none, .int .i32 0, .int .i32 0] : Value)) := by kernel_rfl
theorem zs97 : (Try.prog.info? 97).map (fun i => (i.zero, i.size)) = some (some (.agg #[.int .u64 0, .int .u64 0, .int .u32 0, .int .u8 0, .int .u8 0, .int .u8 0, .int .u8 0, .nilFunc, .pointer none, .int .i32 0, .int .i32 0] : Value), 11) := by kernel_rfl
theorem ag98 : aggB Try.prog 98 11 = true := by kernel_rfl
theorem sz98 : (Try.prog.info? 98).map (·.size) = some 11 := by kernel_rfl
theorem fo98_0 : fieldOff Try.prog 98 0 = some 0 := by kernel_rfl
theorem fo98_1 : fieldOff Try.prog 98 1 = some 1 := by kernel_rfl
theorem fo98_2 : fieldOff Try.prog 98 2 = some 2 := by kernel_rfl
theorem fo98_3 : fieldOff Try.prog 98 3 = some 3 := by kernel_rfl
theorem fo98_4 : fieldOff Try.prog 98 4 = some 4 := by kernel_rfl
theorem fo98_5 : fieldOff Try.prog 98 5 = some 5 := by kernel_rfl
theorem fo98_6 : fieldOff Try.prog 98 6 = some 6 := by kernel_rfl
theorem fo98_7 : fieldOff Try.prog 98 7 = some 7 := by kernel_rfl
theorem fo98_8 : fieldOff Try.prog 98 8 = some 8 := by kernel_rfl
theorem fo98_9 : fieldOff Try.prog 98 9 = some 9 := by kernel_rfl
theorem fo98_10 : fieldOff Try.prog 98 10 = some 10 := by kernel_rfl
theorem zr98 : (Try.prog.info? 98).map (·.zero) = some (some (.agg #[.int .u64 0, .int .u64 0, .int .u32 0, .int .u8 0, .int .u8 0, .int .u8 0, .int .u8 0, .nilFunc, .pointer none, .int .i32 0, .int .i32 0] : Value)) := by kernel_rfl
theorem zs98 : (Try.prog.info? 98).map (fun i => (i.zero, i.size)) = some (some (.agg #[.int .u64 0, .int .u64 0, .int .u32 0, .int .u8 0, .int .u8 0, .int .u8 0, .int .u8 0, .nilFunc, .pointer none, .int .i32 0, .int .i32 0] : Value), 11) := by kernel_rfl
theorem zb22_5 : (Try.prog.info? 5).map (fun i => (i.zero, i.size, i.bytes)) = some (some (.int .u8 0 : Value), 1, 1) := by kernel_rfl
theorem sl22 : SlT Try.prog 22 5 (.int .u8 0 : Value) 1 1 := SlT.mk' un22 zb22_5 rfl (by decide)
theorem zb71_22 : (Try.prog.info? 22).map (fun i => (i.zero, i.size, i.bytes)) = some (some (.slice none 0 0 : Value), 1, 24) := by kernel_rfl
theorem sl71 : SlT Try.prog 71 22 (.slice none 0 0 : Value) 1 24 := SlT.mk' un71 zb71_22 rfl (by decide)
theorem zb78_32 : (Try.prog.info? 32).map (fun i => (i.zero, i.size, i.bytes)) = some (some (.int .u32 0 : Value), 1, 4) := by kernel_rfl
theorem sl78 : SlT Try.prog 78 32 (.int .u32 0 : Value) 1 4 := SlT.mk' un78 zb78_32 rfl (by decide)
theorem en3 : ∀ args w, (callFunc 3 args).run Try.prog w = .ok (.enter 3 args) w := enters Try.func3 (by kernel_rfl) rfl -- hailer/hailerlaw09.SignKnown
theorem en4 : ∀ args w, (callFunc 4 args).run Try.prog w = .ok (.enter 4 args) w := enters Try.func4 (by kernel_rfl) rfl -- hailer/hailerlaw09.SignPuts
theorem en5 : ∀ args w, (callFunc 5 args).run Try.prog w = .ok (.enter 5 args) w := enters Try.func5 (by kernel_rfl) rfl -- hailer/hailerlaw09.SignTakes
theorem en6 : ∀ args w, (callFunc 6 args).run Try.prog w = .ok (.enter 6 args) w := enters Try.func6 (by kernel_rfl) rfl -- hailer/hailerlaw09.SignBack
theorem en7 : ∀ args w, (callFunc 7 args).run Try.prog w = .ok (.enter 7 args) w := enters Try.func7 (by kernel_rfl) rfl -- hailer/sign.Put
theorem en8 : ∀ args w, (callFunc 8 args).run Try.prog w = .ok (.enter 8 args) w := enters Try.func8 (by kernel_rfl) rfl -- hailer/hailerlaw09.works
theorem en9 : ∀ args w, (callFunc 9 args).run Try.prog w = .ok (.enter 9 args) w := enters Try.func9 (by kernel_rfl) rfl -- hailer/sign.Take
theorem en10 : ∀ args w, (callFunc 10 args).run Try.prog w = .ok (.enter 10 args) w := enters Try.func10 (by kernel_rfl) rfl -- hailer/hailerref09.May
theorem en11 : ∀ args w, (callFunc 11 args).run Try.prog w = .ok (.enter 11 args) w := enters Try.func11 (by kernel_rfl) rfl -- hailer/sign.May
theorem en12 : ∀ args w, (callFunc 12 args).run Try.prog w = .ok (.enter 12 args) w := enters Try.func12 (by kernel_rfl) rfl -- hailer/hailerref09.Bytes
theorem en13 : ∀ args w, (callFunc 13 args).run Try.prog w = .ok (.enter 13 args) w := enters Try.func13 (by kernel_rfl) rfl -- hailer/hailerref09.Take
theorem en14 : ∀ args w, (callFunc 14 args).run Try.prog w = .ok (.enter 14 args) w := enters Try.func14 (by kernel_rfl) rfl -- hailer/hailerref09.Same
theorem en15 : ∀ args w, (callFunc 15 args).run Try.prog w = .ok (.enter 15 args) w := enters Try.func15 (by kernel_rfl) rfl -- hailer/wire.NewOut
theorem en16 : ∀ args w, (callFunc 16 args).run Try.prog w = .ok (.enter 16 args) w := enters Try.func16 (by kernel_rfl) rfl -- (*hailer/wire.Out).U8
theorem en17 : ∀ args w, (callFunc 17 args).run Try.prog w = .ok (.enter 17 args) w := enters Try.func17 (by kernel_rfl) rfl -- (*hailer/wire.Out).Fixed
theorem en18 : ∀ args w, (callFunc 18 args).run Try.prog w = .ok (.enter 18 args) w := enters Try.func18 (by kernel_rfl) rfl -- hailer/sign.of
theorem en19 : ∀ args w, (callFunc 19 args).run Try.prog w = .ok (.enter 19 args) w := enters Try.func19 (by kernel_rfl) rfl -- (*hailer/wire.Out).Bytes
theorem en20 : ∀ args w, (callFunc 20 args).run Try.prog w = .ok (.enter 20 args) w := enters Try.func20 (by kernel_rfl) rfl -- hailer/wire.NewIn
theorem en21 : ∀ args w, (callFunc 21 args).run Try.prog w = .ok (.enter 21 args) w := enters Try.func21 (by kernel_rfl) rfl -- (*hailer/wire.In).U8
theorem en22 : ∀ args w, (callFunc 22 args).run Try.prog w = .ok (.enter 22 args) w := enters Try.func22 (by kernel_rfl) rfl -- (*hailer/wire.In).Fixed
theorem en23 : ∀ args w, (callFunc 23 args).run Try.prog w = .ok (.enter 23 args) w := enters Try.func23 (by kernel_rfl) rfl -- (*hailer/wire.In).End
theorem en24 : ∀ args w, (callFunc 24 args).run Try.prog w = .ok (.enter 24 args) w := enters Try.func24 (by kernel_rfl) rfl -- hailer/hailerref09.Id
theorem en25 : ∀ args w, (callFunc 25 args).run Try.prog w = .ok (.enter 25 args) w := enters Try.func25 (by kernel_rfl) rfl -- hailer/hailerref09.Key
theorem en26 : ∀ args w, (callFunc 26 args).run Try.prog w = .ok (.enter 26 args) w := enters Try.func26 (by kernel_rfl) rfl -- hailer/hailerref09.Number
theorem en27 : ∀ args w, (callFunc 27 args).run Try.prog w = .ok (.enter 27 args) w := enters Try.func27 (by kernel_rfl) rfl -- hailer/hailerref09.OfId
theorem en28 : ∀ args w, (callFunc 28 args).run Try.prog w = .ok (.enter 28 args) w := enters Try.func28 (by kernel_rfl) rfl -- hailer/hailerref09.OfKey
theorem en29 : ∀ args w, (callFunc 29 args).run Try.prog w = .ok (.enter 29 args) w := enters Try.func29 (by kernel_rfl) rfl -- hailer/hailerref09.Of
theorem en30 : ∀ args w, (callFunc 30 args).run Try.prog w = .ok (.enter 30 args) w := enters Try.func30 (by kernel_rfl) rfl -- (*hailer/wire.Out).put
theorem en31 : ∀ args w, (callFunc 31 args).run Try.prog w = .ok (.enter 31 args) w := enters Try.func31 (by kernel_rfl) rfl -- hailer/sign.of$1
theorem en32 : ∀ args w, (callFunc 32 args).run Try.prog w = .ok (.enter 32 args) w := enters Try.func32 (by kernel_rfl) rfl -- hailer/sign.of$2
theorem en33 : ∀ args w, (callFunc 33 args).run Try.prog w = .ok (.enter 33 args) w := enters Try.func33 (by kernel_rfl) rfl -- hailer/sign.of$3
theorem en34 : ∀ args w, (callFunc 34 args).run Try.prog w = .ok (.enter 34 args) w := enters Try.func34 (by kernel_rfl) rfl -- hailer/sign.of$4
theorem en35 : ∀ args w, (callFunc 35 args).run Try.prog w = .ok (.enter 35 args) w := enters Try.func35 (by kernel_rfl) rfl -- hailer/sign.of$5
theorem en36 : ∀ args w, (callFunc 36 args).run Try.prog w = .ok (.enter 36 args) w := enters Try.func36 (by kernel_rfl) rfl -- (*hailer/wire.Out).U32
theorem en37 : ∀ args w, (callFunc 37 args).run Try.prog w = .ok (.enter 37 args) w := enters Try.func37 (by kernel_rfl) rfl -- (*hailer/wire.Out).Sized
theorem en38 : ∀ args w, (callFunc 38 args).run Try.prog w = .ok (.enter 38 args) w := enters Try.func38 (by kernel_rfl) rfl -- hailer/sign.of$6
theorem en39 : ∀ args w, (callFunc 39 args).run Try.prog w = .ok (.enter 39 args) w := enters Try.func39 (by kernel_rfl) rfl -- (*hailer/wire.In).U32
theorem en40 : ∀ args w, (callFunc 40 args).run Try.prog w = .ok (.enter 40 args) w := enters Try.func40 (by kernel_rfl) rfl -- (*hailer/wire.In).Sized
theorem en41 : ∀ args w, (callFunc 41 args).run Try.prog w = .ok (.enter 41 args) w := enters Try.func41 (by kernel_rfl) rfl -- hailer/sign.of$7
theorem en42 : ∀ args w, (callFunc 42 args).run Try.prog w = .ok (.enter 42 args) w := enters Try.func42 (by kernel_rfl) rfl -- hailer/sign.of$8
theorem en43 : ∀ args w, (callFunc 43 args).run Try.prog w = .ok (.enter 43 args) w := enters Try.func43 (by kernel_rfl) rfl -- hailer/sign.of$9
theorem en44 : ∀ args w, (callFunc 44 args).run Try.prog w = .ok (.enter 44 args) w := enters Try.func44 (by kernel_rfl) rfl -- hailer/sign.of$10
theorem en45 : ∀ args w, (callFunc 45 args).run Try.prog w = .ok (.enter 45 args) w := enters Try.func45 (by kernel_rfl) rfl -- (*hailer/wire.In).next
theorem en46 : ∀ args w, (callFunc 46 args).run Try.prog w = .ok (.enter 46 args) w := enters Try.func46 (by kernel_rfl) rfl -- (*hailer/wire.In).take
theorem en47 : ∀ args w, (callFunc 47 args).run Try.prog w = .ok (.enter 47 args) w := enters Try.func47 (by kernel_rfl) rfl -- hailer/wire.number[uint32]
theorem en48 : ∀ args w, (callFunc 48 args).run Try.prog w = .ok (.enter 48 args) w := enters Try.func48 (by kernel_rfl) rfl -- (*hailer/wire.Out).many
theorem en49 : ∀ args w, (callFunc 49 args).run Try.prog w = .ok (.enter 49 args) w := enters Try.func49 (by kernel_rfl) rfl -- (*hailer/wire.In).many
theorem en50 : ∀ args w, (callFunc 50 args).run Try.prog w = .ok (.enter 50 args) w := enters Try.func50 (by kernel_rfl) rfl -- hailer/wire.number[uint16]
end Go.Proofs.Ytnmeoleahcnnkaa
