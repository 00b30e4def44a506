/- Facts on the types and functions of the program, each closed. -/
import Derived.Test.YtmcdbjbkkejbbaaProg
import Derived.Test.YtmcdbjbkkejbbaaLibW
namespace Go.Proofs.Ytmcdbjbkkejbbaa
open Go Go.RowKit
theorem mixed : Try.prog.follows .mixedOrders = true := by kernel_rfl
theorem on1 : isOne Try.prog 1 = true := by kernel_rfl
theorem sz1 : (Try.prog.info? 1).map (·.size) = some 1 := by kernel_rfl
theorem zr1 : (Try.prog.info? 1).map (·.zero) = some (some (.nilFunc : Value)) := by kernel_rfl
theorem zs1 : (Try.prog.info? 1).map (fun i => (i.zero, i.size)) = some (some (.nilFunc : Value), 1) := by kernel_rfl
theorem un2 : Try.prog.underlying 2 = some (.int .i64) := Try.underlying2
theorem on2 : isOne Try.prog 2 = true := by kernel_rfl
theorem sz2 : (Try.prog.info? 2).map (·.size) = some 1 := by kernel_rfl
theorem zr2 : (Try.prog.info? 2).map (·.zero) = some (some (.int .i64 0 : Value)) := by kernel_rfl
theorem zs2 : (Try.prog.info? 2).map (fun i => (i.zero, i.size)) = some (some (.int .i64 0 : Value), 1) := by kernel_rfl
theorem un3 : Try.prog.underlying 3 = some (.int .i64) := Try.underlying3
theorem on3 : isOne Try.prog 3 = true := by kernel_rfl
theorem sz3 : (Try.prog.info? 3).map (·.size) = some 1 := by kernel_rfl
theorem zr3 : (Try.prog.info? 3).map (·.zero) = some (some (.int .i64 0 : Value)) := by kernel_rfl
theorem zs3 : (Try.prog.info? 3).map (fun i => (i.zero, i.size)) = some (some (.int .i64 0 : Value), 1) := by kernel_rfl
theorem un4 : Try.prog.underlying 4 = some (.bool) := Try.underlying4
theorem on4 : isOne Try.prog 4 = true := by kernel_rfl
theorem sz4 : (Try.prog.info? 4).map (·.size) = some 1 := by kernel_rfl
theorem zr4 : (Try.prog.info? 4).map (·.zero) = some (some (.bool false : Value)) := by kernel_rfl
theorem zs4 : (Try.prog.info? 4).map (fun i => (i.zero, i.size)) = some (some (.bool false : Value), 1) := by kernel_rfl
theorem un5 : Try.prog.underlying 5 = some (.int .u8) := Try.underlying5
theorem on5 : isOne Try.prog 5 = true := by kernel_rfl
theorem sz5 : (Try.prog.info? 5).map (·.size) = some 1 := by kernel_rfl
theorem zr5 : (Try.prog.info? 5).map (·.zero) = some (some (.int .u8 0 : Value)) := by kernel_rfl
theorem zs5 : (Try.prog.info? 5).map (fun i => (i.zero, i.size)) = some (some (.int .u8 0 : Value), 1) := by kernel_rfl
theorem un6 : Try.prog.underlying 6 = some (.int .u8) := Try.underlying6
theorem on6 : isOne Try.prog 6 = true := by kernel_rfl
theorem sz6 : (Try.prog.info? 6).map (·.size) = some 1 := by kernel_rfl
theorem zr6 : (Try.prog.info? 6).map (·.zero) = some (some (.int .u8 0 : Value)) := by kernel_rfl
theorem zs6 : (Try.prog.info? 6).map (fun i => (i.zero, i.size)) = some (some (.int .u8 0 : Value), 1) := by kernel_rfl
theorem ag7 : aggB Try.prog 7 4 = true := by kernel_rfl
theorem sz7 : (Try.prog.info? 7).map (·.size) = some 4 := by kernel_rfl
theorem fo7_0 : fieldOff Try.prog 7 0 = some 0 := by kernel_rfl
theorem fo7_1 : fieldOff Try.prog 7 1 = some 1 := by kernel_rfl
theorem fo7_2 : fieldOff Try.prog 7 2 = some 2 := by kernel_rfl
theorem fo7_3 : fieldOff Try.prog 7 3 = some 3 := by kernel_rfl
theorem zr7 : (Try.prog.info? 7).map (·.zero) = some (some (.agg #[.int .i64 0, .int .i64 0, .bool false, .int .u8 0] : Value)) := by kernel_rfl
theorem zs7 : (Try.prog.info? 7).map (fun i => (i.zero, i.size)) = some (some (.agg #[.int .i64 0, .int .i64 0, .bool false, .int .u8 0] : Value), 4) := by kernel_rfl
theorem ag8 : aggB Try.prog 8 4 = true := by kernel_rfl
theorem sz8 : (Try.prog.info? 8).map (·.size) = some 4 := by kernel_rfl
theorem fo8_0 : fieldOff Try.prog 8 0 = some 0 := by kernel_rfl
theorem fo8_1 : fieldOff Try.prog 8 1 = some 1 := by kernel_rfl
theorem fo8_2 : fieldOff Try.prog 8 2 = some 2 := by kernel_rfl
theorem fo8_3 : fieldOff Try.prog 8 3 = some 3 := by kernel_rfl
theorem zr8 : (Try.prog.info? 8).map (·.zero) = some (some (.agg #[.int .i64 0, .int .i64 0, .bool false, .int .u8 0] : Value)) := by kernel_rfl
theorem zs8 : (Try.prog.info? 8).map (fun i => (i.zero, i.size)) = some (some (.agg #[.int .i64 0, .int .i64 0, .bool false, .int .u8 0] : Value), 4) := by kernel_rfl
theorem un9 : Try.prog.underlying 9 = some (.string) := Try.underlying9
theorem on9 : isOne Try.prog 9 = true := by kernel_rfl
theorem sz9 : (Try.prog.info? 9).map (·.size) = some 1 := by kernel_rfl
theorem zr9 : (Try.prog.info? 9).map (·.zero) = some (some (.string ByteArray.empty : Value)) := by kernel_rfl
theorem zs9 : (Try.prog.info? 9).map (fun i => (i.zero, i.size)) = some (some (.string ByteArray.empty : Value), 1) := by kernel_rfl
theorem un10 : Try.prog.underlying 10 = some (.string) := Try.underlying10
theorem on10 : isOne Try.prog 10 = true := by kernel_rfl
theorem sz10 : (Try.prog.info? 10).map (·.size) = some 1 := by kernel_rfl
theorem zr10 : (Try.prog.info? 10).map (·.zero) = some (some (.string ByteArray.empty : Value)) := by kernel_rfl
theorem zs10 : (Try.prog.info? 10).map (fun i => (i.zero, i.size)) = some (some (.string ByteArray.empty : Value), 1) := by kernel_rfl
theorem un11 : Try.prog.underlying 11 = some (.string) := Try.underlying11
theorem on11 : isOne Try.prog 11 = true := by kernel_rfl
theorem sz11 : (Try.prog.info? 11).map (·.size) = some 1 := by kernel_rfl
theorem zr11 : (Try.prog.info? 11).map (·.zero) = some (some (.string ByteArray.empty : Value)) := by kernel_rfl
theorem zs11 : (Try.prog.info? 11).map (fun i => (i.zero, i.size)) = some (some (.string ByteArray.empty : Value), 1) := by kernel_rfl
theorem un12 : Try.prog.underlying 12 = some (.int .u64) := Try.underlying12
theorem on12 : isOne Try.prog 12 = true := by kernel_rfl
theorem sz12 : (Try.prog.info? 12).map (·.size) = some 1 := by kernel_rfl
theorem zr12 : (Try.prog.info? 12).map (·.zero) = some (some (.int .u64 0 : Value)) := by kernel_rfl
theorem zs12 : (Try.prog.info? 12).map (fun i => (i.zero, i.size)) = some (some (.int .u64 0 : Value), 1) := by kernel_rfl
theorem ag13 : aggB Try.prog 13 2 = true := by kernel_rfl
theorem sz13 : (Try.prog.info? 13).map (·.size) = some 2 := by kernel_rfl
theorem fo13_0 : fieldOff Try.prog 13 0 = some 0 := by kernel_rfl
theorem fo13_1 : fieldOff Try.prog 13 1 = some 1 := by kernel_rfl
theorem zr13 : (Try.prog.info? 13).map (·.zero) = some (some (.agg #[.string ByteArray.empty, .int .u64 0] : Value)) := by kernel_rfl
theorem zs13 : (Try.prog.info? 13).map (fun i => (i.zero, i.size)) = some (some (.agg #[.string ByteArray.empty, .int .u64 0] : Value), 2) := by kernel_rfl
theorem ag14 : aggB Try.prog 14 2 = true := by kernel_rfl
theorem sz14 : (Try.prog.info? 14).map (·.size) = some 2 := by kernel_rfl
theorem fo14_0 : fieldOff Try.prog 14 0 = some 0 := by kernel_rfl
theorem fo14_1 : fieldOff Try.prog 14 1 = some 1 := by kernel_rfl
theorem zr14 : (Try.prog.info? 14).map (·.zero) = some (some (.agg #[.string ByteArray.empty, .int .u64 0] : Value)) := by kernel_rfl
theorem zs14 : (Try.prog.info? 14).map (fun i => (i.zero, i.size)) = some (some (.agg #[.string ByteArray.empty, .int .u64 0] : Value), 2) := by kernel_rfl
theorem un15 : Try.prog.underlying 15 = some (.pointer 159) := Try.underlying15
theorem on15 : isOne Try.prog 15 = true := by kernel_rfl
theorem sz15 : (Try.prog.info? 15).map (·.size) = some 1 := by kernel_rfl
theorem zr15 : (Try.prog.info? 15).map (·.zero) = some (some (.pointer none : Value)) := by kernel_rfl
theorem zs15 : (Try.prog.info? 15).map (fun i => (i.zero, i.size)) = some (some (.pointer none : Value), 1) := by kernel_rfl
theorem un16 : Try.prog.underlying 16 = some (.pointer 162) := Try.underlying16
theorem on16 : isOne Try.prog 16 = true := by kernel_rfl
theorem sz16 : (Try.prog.info? 16).map (·.size) = some 1 := by kernel_rfl
theorem zr16 : (Try.prog.info? 16).map (·.zero) = some (some (.pointer none : Value)) := by kernel_rfl
theorem zs16 : (Try.prog.info? 16).map (fun i => (i.zero, i.size)) = some (some (.pointer none : Value), 1) := by kernel_rfl
theorem un17 : Try.prog.underlying 17 = some (.pointer 170) := Try.underlying17
theorem on17 : isOne Try.prog 17 = true := by kernel_rfl
theorem sz17 : (Try.prog.info? 17).map (·.size) = some 1 := by kernel_rfl
theorem zr17 : (Try.prog.info? 17).map (·.zero) = some (some (.pointer none : Value)) := by kernel_rfl
theorem zs17 : (Try.prog.info? 17).map (fun i => (i.zero, i.size)) = some (some (.pointer none : Value), 1) := by kernel_rfl
theorem ag18 : aggB Try.prog 18 1 = true := by kernel_rfl
theorem sz18 : (Try.prog.info? 18).map (·.size) = some 1 := by kernel_rfl
theorem fo18_0 : fieldOff Try.prog 18 0 = some 0 := by kernel_rfl
theorem zr18 : (Try.prog.info? 18).map (·.zero) = some (some (.agg #[.pointer none] : Value)) := by kernel_rfl
theorem zs18 : (Try.prog.info? 18).map (fun i => (i.zero, i.size)) = some (some (.agg #[.pointer none] : Value), 1) := by kernel_rfl
theorem ag19 : aggB Try.prog 19 1 = true := by kernel_rfl
theorem sz19 : (Try.prog.info? 19).map (·.size) = some 1 := by kernel_rfl
theorem fo19_0 : fieldOff Try.prog 19 0 = some 0 := by kernel_rfl
theorem zr19 : (Try.prog.info? 19).map (·.zero) = some (some (.agg #[.pointer none] : Value)) := by kernel_rfl
theorem zs19 : (Try.prog.info? 19).map (fun i => (i.zero, i.size)) = some (some (.agg #[.pointer none] : Value), 1) := by kernel_rfl
theorem un21 : Try.prog.underlying 21 = some (.int .i32) := Try.underlying21
theorem on21 : isOne Try.prog 21 = true := by kernel_rfl
theorem sz21 : (Try.prog.info? 21).map (·.size) = some 1 := by kernel_rfl
theorem zr21 : (Try.prog.info? 21).map (·.zero) = some (some (.int .i32 0 : Value)) := by kernel_rfl
theorem zs21 : (Try.prog.info? 21).map (fun i => (i.zero, i.size)) = some (some (.int .i32 0 : Value), 1) := by kernel_rfl
theorem un22 : Try.prog.underlying 22 = some (.slice 31) := Try.underlying22
theorem on22 : isOne Try.prog 22 = true := by kernel_rfl
theorem sz22 : (Try.prog.info? 22).map (·.size) = some 1 := by kernel_rfl
theorem zr22 : (Try.prog.info? 22).map (·.zero) = some (some (.slice none 0 0 : Value)) := by kernel_rfl
theorem zs22 : (Try.prog.info? 22).map (fun i => (i.zero, i.size)) = some (some (.slice none 0 0 : Value), 1) := by kernel_rfl
theorem on23 : isOne Try.prog 23 = true := by kernel_rfl
theorem sz23 : (Try.prog.info? 23).map (·.size) = some 1 := by kernel_rfl
theorem zr23 : (Try.prog.info? 23).map (·.zero) = some (some (.nilFunc : Value)) := by kernel_rfl
theorem zs23 : (Try.prog.info? 23).map (fun i => (i.zero, i.size)) = some (some (.nilFunc : Value), 1) := by kernel_rfl
theorem on24 : isOne Try.prog 24 = true := by kernel_rfl
theorem sz24 : (Try.prog.info? 24).map (·.size) = some 1 := by kernel_rfl
theorem zr24 : (Try.prog.info? 24).map (·.zero) = some (some (.nilFunc : Value)) := by kernel_rfl
theorem zs24 : (Try.prog.info? 24).map (fun i => (i.zero, i.size)) = some (some (.nilFunc : Value), 1) := by kernel_rfl
theorem un25 : Try.prog.underlying 25 = some (.pointer 72) := Try.underlying25
theorem on25 : isOne Try.prog 25 = true := by kernel_rfl
theorem sz25 : (Try.prog.info? 25).map (·.size) = some 1 := by kernel_rfl
theorem zr25 : (Try.prog.info? 25).map (·.zero) = some (some (.pointer none : Value)) := by kernel_rfl
theorem zs25 : (Try.prog.info? 25).map (fun i => (i.zero, i.size)) = some (some (.pointer none : Value), 1) := by kernel_rfl
theorem on26 : isOne Try.prog 26 = true := by kernel_rfl
theorem sz26 : (Try.prog.info? 26).map (·.size) = some 1 := by kernel_rfl
theorem zr26 : (Try.prog.info? 26).map (·.zero) = some (some (.nilFunc : Value)) := by kernel_rfl
theorem zs26 : (Try.prog.info? 26).map (fun i => (i.zero, i.size)) = some (some (.nilFunc : Value), 1) := by kernel_rfl
theorem un27 : Try.prog.underlying 27 = some (.array 16 5) := Try.underlying27
theorem ag27 : aggB Try.prog 27 16 = true := by kernel_rfl
theorem sz27 : (Try.prog.info? 27).map (·.size) = some 16 := by kernel_rfl
theorem zr27 : (Try.prog.info? 27).map (·.zero) = some (some (.agg #[.int .u8 0, .int .u8 0, .int .u8 0, .int .u8 0, .int .u8 0, .int .u8 0, .int .u8 0, .int .u8 0, .int .u8 0, .int .u8 0, .int .u8 0, .int .u8 0, .int .u8 0, .int .u8 0, .int .u8 0, .int .u8 0] : Value)) := by kernel_rfl
theorem zs27 : (Try.prog.info? 27).map (fun i => (i.zero, i.size)) = some (some (.agg #[.int .u8 0, .int .u8 0, .int .u8 0, .int .u8 0, .int .u8 0, .int .u8 0, .int .u8 0, .int .u8 0, .int .u8 0, .int .u8 0, .int .u8 0, .int .u8 0, .int .u8 0, .int .u8 0, .int .u8 0, .int .u8 0] : Value), 16) := by kernel_rfl
theorem un28 : Try.prog.underlying 28 = some (.array 16 5) := Try.underlying28
theorem ag28 : aggB Try.prog 28 16 = true := by kernel_rfl
theorem sz28 : (Try.prog.info? 28).map (·.size) = some 16 := by kernel_rfl
theorem zr28 : (Try.prog.info? 28).map (·.zero) = some (some (.agg #[.int .u8 0, .int .u8 0, .int .u8 0, .int .u8 0, .int .u8 0, .int .u8 0, .int .u8 0, .int .u8 0, .int .u8 0, .int .u8 0, .int .u8 0, .int .u8 0, .int .u8 0, .int .u8 0, .int .u8 0, .int .u8 0] : Value)) := by kernel_rfl
theorem zs28 : (Try.prog.info? 28).map (fun i => (i.zero, i.size)) = some (some (.agg #[.int .u8 0, .int .u8 0, .int .u8 0, .int .u8 0, .int .u8 0, .int .u8 0, .int .u8 0, .int .u8 0, .int .u8 0, .int .u8 0, .int .u8 0, .int .u8 0, .int .u8 0, .int .u8 0, .int .u8 0, .int .u8 0] : Value), 16) := by kernel_rfl
theorem un29 : Try.prog.underlying 29 = some (.int .u64) := Try.underlying29
theorem on29 : isOne Try.prog 29 = true := by kernel_rfl
theorem sz29 : (Try.prog.info? 29).map (·.size) = some 1 := by kernel_rfl
theorem zr29 : (Try.prog.info? 29).map (·.zero) = some (some (.int .u64 0 : Value)) := by kernel_rfl
theorem zs29 : (Try.prog.info? 29).map (fun i => (i.zero, i.size)) = some (some (.int .u64 0 : Value), 1) := by kernel_rfl
theorem ag30 : aggB Try.prog 30 22 = true := by kernel_rfl
theorem sz30 : (Try.prog.info? 30).map (·.size) = some 22 := by kernel_rfl
theorem fo30_0 : fieldOff Try.prog 30 0 = some 0 := by kernel_rfl
theorem fo30_1 : fieldOff Try.prog 30 1 = some 16 := by kernel_rfl
theorem fo30_2 : fieldOff Try.prog 30 2 = some 17 := by kernel_rfl
theorem fo30_3 : fieldOff Try.prog 30 3 = some 18 := by kernel_rfl
theorem fo30_4 : fieldOff Try.prog 30 4 = some 19 := by kernel_rfl
theorem fo30_5 : fieldOff Try.prog 30 5 = some 20 := by kernel_rfl
theorem fo30_6 : fieldOff Try.prog 30 6 = some 21 := by kernel_rfl
theorem zr30 : (Try.prog.info? 30).map (·.zero) = some (some (.agg #[.int .u8 0, .int .u8 0, .int .u8 0, .int .u8 0, .int .u8 0, .int .u8 0, .int .u8 0, .int .u8 0, .int .u8 0, .int .u8 0, .int .u8 0, .int .u8 0, .int .u8 0, .int .u8 0, .int .u8 0, .int .u8 0, .int .u8 0, .bool false, .int .u8 0, .int .u64 0, .int .u64 0, .int .u64 0] : Value)) := by kernel_rfl
theorem zs30 : (Try.prog.info? 30).map (fun i => (i.zero, i.size)) = some (some (.agg #[.int .u8 0, .int .u8 0, .int .u8 0, .int .u8 0, .int .u8 0, .int .u8 0, .int .u8 0, .int .u8 0, .int .u8 0, .int .u8 0, .int .u8 0, .int .u8 0, .int .u8 0, .int .u8 0, .int .u8 0, .int .u8 0, .int .u8 0, .bool false, .int .u8 0, .int .u64 0, .int .u64 0, .int .u64 0] : Value), 22) := by kernel_rfl
theorem ag31 : aggB Try.prog 31 22 = true := by kernel_rfl
theorem sz31 : (Try.prog.info? 31).map (·.size) = some 22 := by kernel_rfl
theorem fo31_0 : fieldOff Try.prog 31 0 = some 0 := by kernel_rfl
theorem fo31_1 : fieldOff Try.prog 31 1 = some 16 := by kernel_rfl
theorem fo31_2 : fieldOff Try.prog 31 2 = some 17 := by kernel_rfl
theorem fo31_3 : fieldOff Try.prog 31 3 = some 18 := by kernel_rfl
theorem fo31_4 : fieldOff Try.prog 31 4 = some 19 := by kernel_rfl
theorem fo31_5 : fieldOff Try.prog 31 5 = some 20 := by kernel_rfl
theorem fo31_6 : fieldOff Try.prog 31 6 = some 21 := by kernel_rfl
theorem zr31 : (Try.prog.info? 31).map (·.zero) = some (some (.agg #[.int .u8 0, .int .u8 0, .int .u8 0, .int .u8 0, .int .u8 0, .int .u8 0, .int .u8 0, .int .u8 0, .int .u8 0, .int .u8 0, .int .u8 0, .int .u8 0, .int .u8 0, .int .u8 0, .int .u8 0, .int .u8 0, .int .u8 0, .bool false, .int .u8 0, .int .u64 0, .int .u64 0, .int .u64 0] : Value)) := by kernel_rfl
theorem zs31 : (Try.prog.info? 31).map (fun i => (i.zero, i.size)) = some (some (.agg #[.int .u8 0, .int .u8 0, .int .u8 0, .int .u8 0, .int .u8 0, .int .u8 0, .int .u8 0, .int .u8 0, .int .u8 0, .int .u8 0, .int .u8 0, .int .u8 0, .int .u8 0, .int .u8 0, .int .u8 0, .int .u8 0, .int .u8 0, .bool false, .int .u8 0, .int .u64 0, .int .u64 0, .int .u64 0] : Value), 22) := by kernel_rfl
theorem un32 : Try.prog.underlying 32 = some (.int .i64) := Try.underlying32
theorem on32 : isOne Try.prog 32 = true := by kernel_rfl
theorem sz32 : (Try.prog.info? 32).map (·.size) = some 1 := by kernel_rfl
theorem zr32 : (Try.prog.info? 32).map (·.zero) = some (some (.int .i64 0 : Value)) := by kernel_rfl
theorem zs32 : (Try.prog.info? 32).map (fun i => (i.zero, i.size)) = some (some (.int .i64 0 : Value), 1) := by kernel_rfl
theorem on34 : isOne Try.prog 34 = true := by kernel_rfl
theorem sz34 : (Try.prog.info? 34).map (·.size) = some 1 := by kernel_rfl
theorem zr34 : (Try.prog.info? 34).map (·.zero) = some (some (.nilFunc : Value)) := by kernel_rfl
theorem zs34 : (Try.prog.info? 34).map (fun i => (i.zero, i.size)) = some (some (.nilFunc : Value), 1) := by kernel_rfl
theorem on36 : isOne Try.prog 36 = true := by kernel_rfl
theorem sz36 : (Try.prog.info? 36).map (·.size) = some 1 := by kernel_rfl
theorem zr36 : (Try.prog.info? 36).map (·.zero) = some (some (.nilFunc : Value)) := by kernel_rfl
theorem zs36 : (Try.prog.info? 36).map (fun i => (i.zero, i.size)) = some (some (.nilFunc : Value), 1) := by kernel_rfl
theorem on38 : isOne Try.prog 38 = true := by kernel_rfl
theorem sz38 : (Try.prog.info? 38).map (·.size) = some 1 := by kernel_rfl
theorem zr38 : (Try.prog.info? 38).map (·.zero) = some (some (.nilFunc : Value)) := by kernel_rfl
theorem zs38 : (Try.prog.info? 38).map (fun i => (i.zero, i.size)) = some (some (.nilFunc : Value), 1) := by kernel_rfl
theorem on39 : isOne Try.prog 39 = true := by kernel_rfl
theorem sz39 : (Try.prog.info? 39).map (·.size) = some 1 := by kernel_rfl
theorem zr39 : (Try.prog.info? 39).map (·.zero) = some (some (.nilFunc : Value)) := by kernel_rfl
theorem zs39 : (Try.prog.info? 39).map (fun i => (i.zero, i.size)) = some (some (.nilFunc : Value), 1) := by kernel_rfl
theorem on40 : isOne Try.prog 40 = true := by kernel_rfl
theorem sz40 : (Try.prog.info? 40).map (·.size) = some 1 := by kernel_rfl
theorem zr40 : (Try.prog.info? 40).map (·.zero) = some (some (.nilFunc : Value)) := by kernel_rfl
theorem zs40 : (Try.prog.info? 40).map (fun i => (i.zero, i.size)) = some (some (.nilFunc : Value), 1) := by kernel_rfl
theorem on41 : isOne Try.prog 41 = true := by kernel_rfl
theorem sz41 : (Try.prog.info? 41).map (·.size) = some 1 := by kernel_rfl
theorem zr41 : (Try.prog.info? 41).map (·.zero) = some (some (.nilFunc : Value)) := by kernel_rfl
theorem zs41 : (Try.prog.info? 41).map (fun i => (i.zero, i.size)) = some (some (.nilFunc : Value), 1) := by kernel_rfl
theorem un42 : Try.prog.underlying 42 = some (.array 8 5) := Try.underlying42
theorem ag42 : aggB Try.prog 42 8 = true := by kernel_rfl
theorem sz42 : (Try.prog.info? 42).map (·.size) = some 8 := by kernel_rfl
theorem zr42 : (Try.prog.info? 42).map (·.zero) = some (some (.agg #[.int .u8 0, .int .u8 0, .int .u8 0, .int .u8 0, .int .u8 0, .int .u8 0, .int .u8 0, .int .u8 0] : Value)) := by kernel_rfl
theorem zs42 : (Try.prog.info? 42).map (fun i => (i.zero, i.size)) = some (some (.agg #[.int .u8 0, .int .u8 0, .int .u8 0, .int .u8 0, .int .u8 0, .int .u8 0, .int .u8 0, .int .u8 0] : Value), 8) := by kernel_rfl
theorem on43 : isOne Try.prog 43 = true := by kernel_rfl
theorem sz43 : (Try.prog.info? 43).map (·.size) = some 1 := by kernel_rfl
theorem zr43 : (Try.prog.info? 43).map (·.zero) = some (some (.nilFunc : Value)) := by kernel_rfl
theorem zs43 : (Try.prog.info? 43).map (fun i => (i.zero, i.size)) = some (some (.nilFunc : Value), 1) := by kernel_rfl
theorem on44 : isOne Try.prog 44 = true := by kernel_rfl
theorem sz44 : (Try.prog.info? 44).map (·.size) = some 1 := by kernel_rfl
theorem zr44 : (Try.prog.info? 44).map (·.zero) = some (some (.nilFunc : Value)) := by kernel_rfl
theorem zs44 : (Try.prog.info? 44).map (fun i => (i.zero, i.size)) = some (some (.nilFunc : Value), 1) := by kernel_rfl
theorem on45 : isOne Try.prog 45 = true := by kernel_rfl
theorem sz45 : (Try.prog.info? 45).map (·.size) = some 1 := by kernel_rfl
theorem zr45 : (Try.prog.info? 45).map (·.zero) = some (some (.nilFunc : Value)) := by kernel_rfl
theorem zs45 : (Try.prog.info? 45).map (fun i => (i.zero, i.size)) = some (some (.nilFunc : Value), 1) := by kernel_rfl
theorem on46 : isOne Try.prog 46 = true := by kernel_rfl
theorem sz46 : (Try.prog.info? 46).map (·.size) = some 1 := by kernel_rfl
theorem zr46 : (Try.prog.info? 46).map (·.zero) = some (some (.nilFunc : Value)) := by kernel_rfl
theorem zs46 : (Try.prog.info? 46).map (fun i => (i.zero, i.size)) = some (some (.nilFunc : Value), 1) := by kernel_rfl
theorem on47 : isOne Try.prog 47 = true := by kernel_rfl
theorem sz47 : (Try.prog.info? 47).map (·.size) = some 1 := by kernel_rfl
theorem zr47 : (Try.prog.info? 47).map (·.zero) = some (some (.nilFunc : Value)) := by kernel_rfl
theorem zs47 : (Try.prog.info? 47).map (fun i => (i.zero, i.size)) = some (some (.nilFunc : Value), 1) := by kernel_rfl
theorem on48 : isOne Try.prog 48 = true := by kernel_rfl
theorem sz48 : (Try.prog.info? 48).map (·.size) = some 1 := by kernel_rfl
theorem zr48 : (Try.prog.info? 48).map (·.zero) = some (some (.nilFunc : Value)) := by kernel_rfl
theorem zs48 : (Try.prog.info? 48).map (fun i => (i.zero, i.size)) = some (some (.nilFunc : Value), 1) := by kernel_rfl
theorem on49 : isOne Try.prog 49 = true := by kernel_rfl
theorem sz49 : (Try.prog.info? 49).map (·.size) = some 1 := by kernel_rfl
theorem zr49 : (Try.prog.info? 49).map (·.zero) = some (some (.nilFunc : Value)) := by kernel_rfl
theorem zs49 : (Try.prog.info? 49).map (fun i => (i.zero, i.size)) = some (some (.nilFunc : Value), 1) := by kernel_rfl
theorem un50 : Try.prog.underlying 50 = some (.slice 5) := Try.underlying50
theorem on50 : isOne Try.prog 50 = true := by kernel_rfl
theorem sz50 : (Try.prog.info? 50).map (·.size) = some 1 := by kernel_rfl
theorem zr50 : (Try.prog.info? 50).map (·.zero) = some (some (.slice none 0 0 : Value)) := by kernel_rfl
theorem zs50 : (Try.prog.info? 50).map (fun i => (i.zero, i.size)) = some (some (.slice none 0 0 : Value), 1) := by kernel_rfl
theorem on51 : isOne Try.prog 51 = true := by kernel_rfl
theorem sz51 : (Try.prog.info? 51).map (·.size) = some 1 := by kernel_rfl
theorem zr51 : (Try.prog.info? 51).map (·.zero) = some (some (.nilFunc : Value)) := by kernel_rfl
theorem zs51 : (Try.prog.info? 51).map (fun i => (i.zero, i.size)) = some (some (.nilFunc : Value), 1) := by kernel_rfl
theorem un52 : Try.prog.underlying 52 = some (.array 16 42) := Try.underlying52
theorem ag52 : aggB Try.prog 52 128 = true := by kernel_rfl
theorem sz52 : (Try.prog.info? 52).map (·.size) = some 128 := by kernel_rfl
theorem zr52 : (Try.prog.info? 52).map (·.zero) = some (some (.agg #[.int .u8 0, .int .u8 0, .int .u8 0, .int .u8 0, .int .u8 0, .int .u8 0, .int .u8 0, .int .u8 0, .int .u8 0, .int .u8 0, .int .u8 0, .int .u8 0, .int .u8 0, .int .u8 0, .int .u8 0, .int .u8 0, .int .u8 0, .int .u8 0, .int .u8 0, .int .u8 0, .int .u8 0, .int .u8 0, .int .u8 0, .int .u8 0, .int .u8 0, .int .u8 0, .int .u8 0, .int .u8 0, .int .u8 0, .int .u8 0, .int .u8 0, .int .u8 0, .int .u8 0, .int .u8 0, .int .u8 0, .int .u8 0, .int .u8 0, .int .u8 0, .int .u8 0, .int .u8 0, .int .u8 0, .int .u8 0, .int .u8 0, .int .u8 0, .int .u8 0, .int .u8 0, .int .u8 0, .int .u8 0, .int .u8 0, .int .u8 0, .int .u8 0, .int .u8 0, .int .u8 0, .int .u8 0, .int .u8 0, .int .u8 0, .int .u8 0, .int .u8 0, .int .u8 0, .int .u8 0, .int .u8 0, .int .u8 0, .int .u8 0, .int .u8 0, .int .u8 0, .int .u8 0, .int .u8 0, .int .u8 0, .int .u8 0, .int .u8 0, .int .u8 0, .int .u8 0, .int .u8 0, .int .u8 0, .int .u8 0, .int .u8 0, .int .u8 0, .int .u8 0, .int .u8 0, .int .u8 0, .int .u8 0, .int .u8 0, .int .u8 0, .int .u8 0, .int .u8 0, .int .u8 0, .int .u8 0, .int .u8 0, .int .u8 0, .int .u8 0, .int .u8 0, .int .u8 0, .int .u8 0, .int .u8 0, .int .u8 0, .int .u8 0, .int .u8 0, .int .u8 0, .int .u8 0, .int .u8 0, .int .u8 0, .int .u8 0, .int .u8 0, .int .u8 0, .int .u8 0, .int .u8 0, .int .u8 0, .int .u8 0, .int .u8 0, .int .u8 0, .int .u8 0, .int .u8 0, .int .u8 0, .int .u8 0, .int .u8 0, .int .u8 0, .int .u8 0, .int .u8 0, .int .u8 0, .int .u8 0, .int .u8 0, .int .u8 0, .int .u8 0, .int .u8 0, .int .u8 0, .int .u8 0, .int .u8 0, .int .u8 0] : Value)) := by kernel_rfl
theorem zs52 : (Try.prog.info? 52).map (fun i => (i.zero, i.size)) = some (some (.agg #[.int .u8 0, .int .u8 0, .int .u8 0, .int .u8 0, .int .u8 0, .int .u8 0, .int .u8 0, .int .u8 0, .int .u8 0, .int .u8 0, .int .u8 0, .int .u8 0, .int .u8 0, .int .u8 0, .int .u8 0, .int .u8 0, .int .u8 0, .int .u8 0, .int .u8 0, .int .u8 0, .int .u8 0, .int .u8 0, .int .u8 0, .int .u8 0, .int .u8 0, .int .u8 0, .int .u8 0, .int .u8 0, .int .u8 0, .int .u8 0, .int .u8 0, .int .u8 0, .int .u8 0, .int .u8 0, .int .u8 0, .int .u8 0, .int .u8 0, .int .u8 0, .int .u8 0, .int .u8 0, .int .u8 0, .int .u8 0, .int .u8 0, .int .u8 0, .int .u8 0, .int .u8 0, .int .u8 0, .int .u8 0, .int .u8 0, .int .u8 0, .int .u8 0, .int .u8 0, .int .u8 0, .int .u8 0, .int .u8 0, .int .u8 0, .int .u8 0, .int .u8 0, .int .u8 0, .int .u8 0, .int .u8 0, .int .u8 0, .int .u8 0, .int .u8 0, .int .u8 0, .int .u8 0, .int .u8 0, .int .u8 0, .int .u8 0, .int .u8 0, .int .u8 0, .int .u8 0, .int .u8 0, .int .u8 0, .int .u8 0, .int .u8 0, .int .u8 0, .int .u8 0, .int .u8 0, .int .u8 0, .int .u8 0, .int .u8 0, .int .u8 0, .int .u8 0, .int .u8 0, .int .u8 0, .int .u8 0, .int .u8 0, .int .u8 0, .int .u8 0, .int .u8 0, .int .u8 0, .int .u8 0, .int .u8 0, .int .u8 0, .int .u8 0, .int .u8 0, .int .u8 0, .int .u8 0, .int .u8 0, .int .u8 0, .int .u8 0, .int .u8 0, .int .u8 0, .int .u8 0, .int .u8 0, .int .u8 0, .int .u8 0, .int .u8 0, .int .u8 0, .int .u8 0, .int .u8 0, .int .u8 0, .int .u8 0, .int .u8 0, .int .u8 0, .int .u8 0, .int .u8 0, .int .u8 0, .int .u8 0, .int .u8 0, .int .u8 0, .int .u8 0, .int .u8 0, .int .u8 0, .int .u8 0, .int .u8 0, .int .u8 0] : Value), 128) := by kernel_rfl
theorem on53 : isOne Try.prog 53 = true := by kernel_rfl
theorem sz53 : (Try.prog.info? 53).map (·.size) = some 1 := by kernel_rfl
theorem zr53 : (Try.prog.info? 53).map (·.zero) = some (some (.nilFunc : Value)) := by kernel_rfl
theorem zs53 : (Try.prog.info? 53).map (fun i => (i.zero, i.size)) = some (some (.nilFunc : Value), 1) := by kernel_rfl
theorem on54 : isOne Try.prog 54 = true := by kernel_rfl
theorem sz54 : (Try.prog.info? 54).map (·.size) = some 1 := by kernel_rfl
theorem zr54 : (Try.prog.info? 54).map (·.zero) = some (some (.nilFunc : Value)) := by kernel_rfl
theorem zs54 : (Try.prog.info? 54).map (fun i => (i.zero, i.size)) = some (some (.nilFunc : Value), 1) := by kernel_rfl
theorem on55 : isOne Try.prog 55 = true := by kernel_rfl
theorem sz55 : (Try.prog.info? 55).map (·.size) = some 1 := by kernel_rfl
theorem zr55 : (Try.prog.info? 55).map (·.zero) = some (some (.nilFunc : Value)) := by kernel_rfl
theorem zs55 : (Try.prog.info? 55).map (fun i => (i.zero, i.size)) = some (some (.nilFunc : Value), 1) := by kernel_rfl
theorem un56 : Try.prog.underlying 56 = some (.slice 22) := Try.underlying56
theorem on56 : isOne Try.prog 56 = true := by kernel_rfl
theorem sz56 : (Try.prog.info? 56).map (·.size) = some 1 := by kernel_rfl
theorem zr56 : (Try.prog.info? 56).map (·.zero) = some (some (.slice none 0 0 : Value)) := by kernel_rfl
theorem zs56 : (Try.prog.info? 56).map (fun i => (i.zero, i.size)) = some (some (.slice none 0 0 : Value), 1) := by kernel_rfl
theorem un57 : Try.prog.underlying 57 = some (.slice 25) := Try.underlying57
theorem on57 : isOne Try.prog 57 = true := by kernel_rfl
theorem sz57 : (Try.prog.info? 57).map (·.size) = some 1 := by kernel_rfl
theorem zr57 : (Try.prog.info? 57).map (·.zero) = some (some (.slice none 0 0 : Value)) := by kernel_rfl
theorem zs57 : (Try.prog.info? 57).map (fun i => (i.zero, i.size)) = some (some (.slice none 0 0 : Value), 1) := by kernel_rfl
theorem on58 : isOne Try.prog 58 = true := by kernel_rfl
theorem sz58 : (Try.prog.info? 58).map (·.size) = some 1 := by kernel_rfl
theorem zr58 : (Try.prog.info? 58).map (·.zero) = some (some (.nilFunc : Value)) := by kernel_rfl
theorem zs58 : (Try.prog.info? 58).map (fun i => (i.zero, i.size)) = some (some (.nilFunc : Value), 1) := by kernel_rfl
theorem on59 : isOne Try.prog 59 = true := by kernel_rfl
theorem sz59 : (Try.prog.info? 59).map (·.size) = some 1 := by kernel_rfl
theorem zr59 : (Try.prog.info? 59).map (·.zero) = some (some (.nilFunc : Value)) := by kernel_rfl
theorem zs59 : (Try.prog.info? 59).map (fun i => (i.zero, i.size)) = some (some (.nilFunc : Value), 1) := by kernel_rfl
theorem on60 : isOne Try.prog 60 = true := by kernel_rfl
theorem sz60 : (Try.prog.info? 60).map (·.size) = some 1 := by kernel_rfl
theorem zr60 : (Try.prog.info? 60).map (·.zero) = some (some (.nilFunc : Value)) := by kernel_rfl
theorem zs60 : (Try.prog.info? 60).map (fun i => (i.zero, i.size)) = some (some (.nilFunc : Value), 1) := by kernel_rfl
theorem on61 : isOne Try.prog 61 = true := by kernel_rfl
theorem sz61 : (Try.prog.info? 61).map (·.size) = some 1 := by kernel_rfl
theorem zr61 : (Try.prog.info? 61).map (·.zero) = some (some (.nilFunc : Value)) := by kernel_rfl
theorem zs61 : (Try.prog.info? 61).map (fun i => (i.zero, i.size)) = some (some (.nilFunc : Value), 1) := by kernel_rfl
theorem un62 : Try.prog.underlying 62 = some (.slice 92) := Try.underlying62
theorem on62 : isOne Try.prog 62 = true := by kernel_rfl
theorem sz62 : (Try.prog.info? 62).map (·.size) = some 1 := by kernel_rfl
theorem zr62 : (Try.prog.info? 62).map (·.zero) = some (some (.slice none 0 0 : Value)) := by kernel_rfl
theorem zs62 : (Try.prog.info? 62).map (fun i => (i.zero, i.size)) = some (some (.slice none 0 0 : Value), 1) := by kernel_rfl
theorem on63 : isOne Try.prog 63 = true := by kernel_rfl
theorem sz63 : (Try.prog.info? 63).map (·.size) = some 1 := by kernel_rfl
theorem zr63 : (Try.prog.info? 63).map (·.zero) = some (some (.nilFunc : Value)) := by kernel_rfl
theorem zs63 : (Try.prog.info? 63).map (fun i => (i.zero, i.size)) = some (some (.nilFunc : Value), 1) := by kernel_rfl
theorem on64 : isOne Try.prog 64 = true := by kernel_rfl
theorem sz64 : (Try.prog.info? 64).map (·.size) = some 1 := by kernel_rfl
theorem zr64 : (Try.prog.info? 64).map (·.zero) = some (some (.nilFunc : Value)) := by kernel_rfl
theorem zs64 : (Try.prog.info? 64).map (fun i => (i.zero, i.size)) = some (some (.nilFunc : Value), 1) := by kernel_rfl
theorem on65 : isOne Try.prog 65 = true := by kernel_rfl
theorem sz65 : (Try.prog.info? 65).map (·.size) = some 1 := by kernel_rfl
theorem zr65 : (Try.prog.info? 65).map (·.zero) = some (some (.nilFunc : Value)) := by kernel_rfl
theorem zs65 : (Try.prog.info? 65).map (fun i => (i.zero, i.size)) = some (some (.nilFunc : Value), 1) := by kernel_rfl
theorem on66 : isOne Try.prog 66 = true := by kernel_rfl
theorem sz66 : (Try.prog.info? 66).map (·.size) = some 1 := by kernel_rfl
theorem zr66 : (Try.prog.info? 66).map (·.zero) = some (some (.nilFunc : Value)) := by kernel_rfl
theorem zs66 : (Try.prog.info? 66).map (fun i => (i.zero, i.size)) = some (some (.nilFunc : Value), 1) := by kernel_rfl
theorem on67 : isOne Try.prog 67 = true := by kernel_rfl
theorem sz67 : (Try.prog.info? 67).map (·.size) = some 1 := by kernel_rfl
theorem zr67 : (Try.prog.info? 67).map (·.zero) = some (some (.nilFunc : Value)) := by kernel_rfl
theorem zs67 : (Try.prog.info? 67).map (fun i => (i.zero, i.size)) = some (some (.nilFunc : Value), 1) := by kernel_rfl
theorem on68 : isOne Try.prog 68 = true := by kernel_rfl
theorem sz68 : (Try.prog.info? 68).map (·.size) = some 1 := by kernel_rfl
theorem zr68 : (Try.prog.info? 68).map (·.zero) = some (some (.nilFunc : Value)) := by kernel_rfl
theorem zs68 : (Try.prog.info? 68).map (fun i => (i.zero, i.size)) = some (some (.nilFunc : Value), 1) := by kernel_rfl
theorem on70 : isOne Try.prog 70 = true := by kernel_rfl
theorem sz70 : (Try.prog.info? 70).map (·.size) = some 1 := by kernel_rfl
theorem zr70 : (Try.prog.info? 70).map (·.zero) = some (some (.nilFunc : Value)) := by kernel_rfl
theorem zs70 : (Try.prog.info? 70).map (fun i => (i.zero, i.size)) = some (some (.nilFunc : Value), 1) := by kernel_rfl
theorem ag71 : aggB Try.prog 71 1 = true := by kernel_rfl
theorem sz71 : (Try.prog.info? 71).map (·.size) = some 1 := by kernel_rfl
theorem fo71_0 : fieldOff Try.prog 71 0 = some 0 := by kernel_rfl
theorem zr71 : (Try.prog.info? 71).map (·.zero) = some (some (.agg #[.slice none 0 0] : Value)) := by kernel_rfl
theorem zs71 : (Try.prog.info? 71).map (fun i => (i.zero, i.size)) = some (some (.agg #[.slice none 0 0] : Value), 1) := by kernel_rfl
theorem ag72 : aggB Try.prog 72 1 = true := by kernel_rfl
theorem sz72 : (Try.prog.info? 72).map (·.size) = some 1 := by kernel_rfl
theorem fo72_0 : fieldOff Try.prog 72 0 = some 0 := by kernel_rfl
theorem zr72 : (Try.prog.info? 72).map (·.zero) = some (some (.agg #[.slice none 0 0] : Value)) := by kernel_rfl
theorem zs72 : (Try.prog.info? 72).map (fun i => (i.zero, i.size)) = some (some (.agg #[.slice none 0 0] : Value), 1) := by kernel_rfl
theorem on73 : isOne Try.prog 73 = true := by kernel_rfl
theorem sz73 : (Try.prog.info? 73).map (·.size) = some 1 := by kernel_rfl
theorem zr73 : (Try.prog.info? 73).map (·.zero) = some (some (.nilFunc : Value)) := by kernel_rfl
theorem zs73 : (Try.prog.info? 73).map (fun i => (i.zero, i.size)) = some (some (.nilFunc : Value), 1) := by kernel_rfl
theorem on74 : isOne Try.prog 74 = true := by kernel_rfl
theorem sz74 : (Try.prog.info? 74).map (·.size) = some 1 := by kernel_rfl
theorem zr74 : (Try.prog.info? 74).map (·.zero) = some (some (.nilFunc : Value)) := by kernel_rfl
theorem zs74 : (Try.prog.info? 74).map (fun i => (i.zero, i.size)) = some (some (.nilFunc : Value), 1) := by kernel_rfl
theorem on75 : isOne Try.prog 75 = true := by kernel_rfl
theorem sz75 : (Try.prog.info? 75).map (·.size) = some 1 := by kernel_rfl
theorem zr75 : (Try.prog.info? 75).map (·.zero) = some (some (.nilFunc : Value)) := by kernel_rfl
theorem zs75 : (Try.prog.info? 75).map (fun i => (i.zero, i.size)) = some (some (.nilFunc : Value), 1) := by kernel_rfl
theorem on76 : isOne Try.prog 76 = true := by kernel_rfl
theorem sz76 : (Try.prog.info? 76).map (·.size) = some 1 := by kernel_rfl
theorem zr76 : (Try.prog.info? 76).map (·.zero) = some (some (.nilFunc : Value)) := by kernel_rfl
theorem zs76 : (Try.prog.info? 76).map (fun i => (i.zero, i.size)) = some (some (.nilFunc : Value), 1) := by kernel_rfl
theorem on77 : isOne Try.prog 77 = true := by kernel_rfl
theorem sz77 : (Try.prog.info? 77).map (·.size) = some 1 := by kernel_rfl
theorem zr77 : (Try.prog.info? 77).map (·.zero) = some (some (.nilFunc : Value)) := by kernel_rfl
theorem zs77 : (Try.prog.info? 77).map (fun i => (i.zero, i.size)) = some (some (.nilFunc : Value), 1) := by kernel_rfl
theorem on78 : isOne Try.prog 78 = true := by kernel_rfl
theorem sz78 : (Try.prog.info? 78).map (·.size) = some 1 := by kernel_rfl
theorem zr78 : (Try.prog.info? 78).map (·.zero) = some (some (.nilFunc : Value)) := by kernel_rfl
theorem zs78 : (Try.prog.info? 78).map (fun i => (i.zero, i.size)) = some (some (.nilFunc : Value), 1) := by kernel_rfl
theorem on79 : isOne Try.prog 79 = true := by kernel_rfl
theorem sz79 : (Try.prog.info? 79).map (·.size) = some 1 := by kernel_rfl
theorem zr79 : (Try.prog.info? 79).map (·.zero) = some (some (.nilFunc : Value)) := by kernel_rfl
theorem zs79 : (Try.prog.info? 79).map (fun i => (i.zero, i.size)) = some (some (.nilFunc : Value), 1) := by kernel_rfl
theorem on80 : isOne Try.prog 80 = true := by kernel_rfl
theorem sz80 : (Try.prog.info? 80).map (·.size) = some 1 := by kernel_rfl
theorem zr80 : (Try.prog.info? 80).map (·.zero) = some (some (.nilFunc : Value)) := by kernel_rfl
theorem zs80 : (Try.prog.info? 80).map (fun i => (i.zero, i.size)) = some (some (.nilFunc : Value), 1) := by kernel_rfl
theorem on81 : isOne Try.prog 81 = true := by kernel_rfl
theorem sz81 : (Try.prog.info? 81).map (·.size) = some 1 := by kernel_rfl
theorem zr81 : (Try.prog.info? 81).map (·.zero) = some (some (.nilFunc : Value)) := by kernel_rfl
theorem zs81 : (Try.prog.info? 81).map (fun i => (i.zero, i.size)) = some (some (.nilFunc : Value), 1) := by kernel_rfl
theorem on82 : isOne Try.prog 82 = true := by kernel_rfl
theorem sz82 : (Try.prog.info? 82).map (·.size) = some 1 := by kernel_rfl
theorem zr82 : (Try.prog.info? 82).map (·.zero) = some (some (.nilFunc : Value)) := by kernel_rfl
theorem zs82 : (Try.prog.info? 82).map (fun i => (i.zero, i.size)) = some (some (.nilFunc : Value), 1) := by kernel_rfl
theorem on83 : isOne Try.prog 83 = true := by kernel_rfl
theorem sz83 : (Try.prog.info? 83).map (·.size) = some 1 := by kernel_rfl
theorem zr83 : (Try.prog.info? 83).map (·.zero) = some (some (.nilFunc : Value)) := by kernel_rfl
theorem zs83 : (Try.prog.info? 83).map (fun i => (i.zero, i.size)) = some (some (.nilFunc : Value), 1) := by kernel_rfl
theorem on84 : isOne Try.prog 84 = true := by kernel_rfl
theorem sz84 : (Try.prog.info? 84).map (·.size) = some 1 := by kernel_rfl
theorem zr84 : (Try.prog.info? 84).map (·.zero) = some (some (.nilFunc : Value)) := by kernel_rfl
theorem zs84 : (Try.prog.info? 84).map (fun i => (i.zero, i.size)) = some (some (.nilFunc : Value), 1) := by kernel_rfl
theorem on85 : isOne Try.prog 85 = true := by kernel_rfl
theorem sz85 : (Try.prog.info? 85).map (·.size) = some 1 := by kernel_rfl
theorem zr85 : (Try.prog.info? 85).map (·.zero) = some (some (.nilFunc : Value)) := by kernel_rfl
theorem zs85 : (Try.prog.info? 85).map (fun i => (i.zero, i.size)) = some (some (.nilFunc : Value), 1) := by kernel_rfl
theorem on86 : isOne Try.prog 86 = true := by kernel_rfl
theorem sz86 : (Try.prog.info? 86).map (·.size) = some 1 := by kernel_rfl
theorem zr86 : (Try.prog.info? 86).map (·.zero) = some (some (.nilFunc : Value)) := by kernel_rfl
theorem zs86 : (Try.prog.info? 86).map (fun i => (i.zero, i.size)) = some (some (.nilFunc : Value), 1) := by kernel_rfl
theorem on87 : isOne Try.prog 87 = true := by kernel_rfl
theorem sz87 : (Try.prog.info? 87).map (·.size) = some 1 := by kernel_rfl
theorem zr87 : (Try.prog.info? 87).map (·.zero) = some (some (.nilFunc : Value)) := by kernel_rfl
theorem zs87 : (Try.prog.info? 87).map (fun i => (i.zero, i.size)) = some (some (.nilFunc : Value), 1) := by kernel_rfl
theorem on88 : isOne Try.prog 88 = true := by kernel_rfl
theorem sz88 : (Try.prog.info? 88).map (·.size) = some 1 := by kernel_rfl
theorem zr88 : (Try.prog.info? 88).map (·.zero) = some (some (.nilFunc : Value)) := by kernel_rfl
theorem zs88 : (Try.prog.info? 88).map (fun i => (i.zero, i.size)) = some (some (.nilFunc : Value), 1) := by kernel_rfl
theorem on89 : isOne Try.prog 89 = true := by kernel_rfl
theorem sz89 : (Try.prog.info? 89).map (·.size) = some 1 := by kernel_rfl
theorem zr89 : (Try.prog.info? 89).map (·.zero) = some (some (.nilFunc : Value)) := by kernel_rfl
theorem zs89 : (Try.prog.info? 89).map (fun i => (i.zero, i.size)) = some (some (.nilFunc : Value), 1) := by kernel_rfl
theorem on90 : isOne Try.prog 90 = true := by kernel_rfl
theorem sz90 : (Try.prog.info? 90).map (·.size) = some 1 := by kernel_rfl
theorem zr90 : (Try.prog.info? 90).map (·.zero) = some (some (.nilFunc : Value)) := by kernel_rfl
theorem zs90 : (Try.prog.info? 90).map (fun i => (i.zero, i.size)) = some (some (.nilFunc : Value), 1) := by kernel_rfl
theorem on91 : isOne Try.prog 91 = true := by kernel_rfl
theorem sz91 : (Try.prog.info? 91).map (·.size) = some 1 := by kernel_rfl
theorem zr91 : (Try.prog.info? 91).map (·.zero) = some (some (.nilFunc : Value)) := by kernel_rfl
theorem zs91 : (Try.prog.info? 91).map (fun i => (i.zero, i.size)) = some (some (.nilFunc : Value), 1) := by kernel_rfl
theorem un92 : Try.prog.underlying 92 = some (.int .u16) := Try.underlying92
theorem on92 : isOne Try.prog 92 = true := by kernel_rfl
theorem sz92 : (Try.prog.info? 92).map (·.size) = some 1 := by kernel_rfl
theorem zr92 : (Try.prog.info? 92).map (·.zero) = some (some (.int .u16 0 : Value)) := by kernel_rfl
theorem zs92 : (Try.prog.info? 92).map (fun i => (i.zero, i.size)) = some (some (.int .u16 0 : Value), 1) := by kernel_rfl
theorem on93 : isOne Try.prog 93 = true := by kernel_rfl
theorem sz93 : (Try.prog.info? 93).map (·.size) = some 1 := by kernel_rfl
theorem zr93 : (Try.prog.info? 93).map (·.zero) = some (some (.nilFunc : Value)) := by kernel_rfl
theorem zs93 : (Try.prog.info? 93).map (fun i => (i.zero, i.size)) = some (some (.nilFunc : Value), 1) := by kernel_rfl
theorem on94 : isOne Try.prog 94 = true := by kernel_rfl
theorem sz94 : (Try.prog.info? 94).map (·.size) = some 1 := by kernel_rfl
theorem zr94 : (Try.prog.info? 94).map (·.zero) = some (some (.nilFunc : Value)) := by kernel_rfl
theorem zs94 : (Try.prog.info? 94).map (fun i => (i.zero, i.size)) = some (some (.nilFunc : Value), 1) := by kernel_rfl
theorem on95 : isOne Try.prog 95 = true := by kernel_rfl
theorem sz95 : (Try.prog.info? 95).map (·.size) = some 1 := by kernel_rfl
theorem zr95 : (Try.prog.info? 95).map (·.zero) = some (some (.nilFunc : Value)) := by kernel_rfl
theorem zs95 : (Try.prog.info? 95).map (fun i => (i.zero, i.size)) = some (some (.nilFunc : Value), 1) := by kernel_rfl
theorem on96 : isOne Try.prog 96 = true := by kernel_rfl
theorem sz96 : (Try.prog.info? 96).map (·.size) = some 1 := by kernel_rfl
theorem zr96 : (Try.prog.info? 96).map (·.zero) = some (some (.nilFunc : Value)) := by kernel_rfl
theorem zs96 : (Try.prog.info? 96).map (fun i => (i.zero, i.size)) = some (some (.nilFunc : Value), 1) := by kernel_rfl
theorem on98 : isOne Try.prog 98 = true := by kernel_rfl
theorem sz98 : (Try.prog.info? 98).map (·.size) = some 1 := by kernel_rfl
theorem zr98 : (Try.prog.info? 98).map (·.zero) = some (some (.nilFunc : Value)) := by kernel_rfl
theorem zs98 : (Try.prog.info? 98).map (fun i => (i.zero, i.size)) = some (some (.nilFunc : Value), 1) := by kernel_rfl
theorem on99 : isOne Try.prog 99 = true := by kernel_rfl
theorem sz99 : (Try.prog.info? 99).map (·.size) = some 1 := by kernel_rfl
theorem zr99 : (Try.prog.info? 99).map (·.zero) = some (some (.nilFunc : Value)) := by kernel_rfl
theorem zs99 : (Try.prog.info? 99).map (fun i => (i.zero, i.size)) = some (some (.nilFunc : Value), 1) := by kernel_rfl
theorem un100 : Try.prog.underlying 100 = some (.slice 3) := Try.underlying100
theorem on100 : isOne Try.prog 100 = true := by kernel_rfl
theorem sz100 : (Try.prog.info? 100).map (·.size) = some 1 := by kernel_rfl
theorem zr100 : (Try.prog.info? 100).map (·.zero) = some (some (.slice none 0 0 : Value)) := by kernel_rfl
theorem zs100 : (Try.prog.info? 100).map (fun i => (i.zero, i.size)) = some (some (.slice none 0 0 : Value), 1) := by kernel_rfl
theorem on101 : isOne Try.prog 101 = true := by kernel_rfl
theorem sz101 : (Try.prog.info? 101).map (·.size) = some 1 := by kernel_rfl
theorem zr101 : (Try.prog.info? 101).map (·.zero) = some (some (.nilFunc : Value)) := by kernel_rfl
theorem zs101 : (Try.prog.info? 101).map (fun i => (i.zero, i.size)) = some (some (.nilFunc : Value), 1) := by kernel_rfl
theorem on102 : isOne Try.prog 102 = true := by kernel_rfl
theorem sz102 : (Try.prog.info? 102).map (·.size) = some 1 := by kernel_rfl
theorem zr102 : (Try.prog.info? 102).map (·.zero) = some (some (.nilFunc : Value)) := by kernel_rfl
theorem zs102 : (Try.prog.info? 102).map (fun i => (i.zero, i.size)) = some (some (.nilFunc : Value), 1) := by kernel_rfl
theorem on104 : isOne Try.prog 104 = true := by kernel_rfl
theorem sz104 : (Try.prog.info? 104).map (·.size) = some 1 := by kernel_rfl
theorem zr104 : (Try.prog.info? 104).map (·.zero) = some (some (.nilFunc : Value)) := by kernel_rfl
theorem zs104 : (Try.prog.info? 104).map (fun i => (i.zero, i.size)) = some (some (.nilFunc : Value), 1) := by kernel_rfl
theorem on105 : isOne Try.prog 105 = true := by kernel_rfl
theorem sz105 : (Try.prog.info? 105).map (·.size) = some 1 := by kernel_rfl
theorem zr105 : (Try.prog.info? 105).map (·.zero) = some (some (.nilFunc : Value)) := by kernel_rfl
theorem zs105 : (Try.prog.info? 105).map (fun i => (i.zero, i.size)) = some (some (.nilFunc : Value), 1) := by kernel_rfl
theorem on106 : isOne Try.prog 106 = true := by kernel_rfl
theorem sz106 : (Try.prog.info? 106).map (·.size) = some 1 := by kernel_rfl
theorem zr106 : (Try.prog.info? 106).map (·.zero) = some (some (.nilFunc : Value)) := by kernel_rfl
theorem zs106 : (Try.prog.info? 106).map (fun i => (i.zero, i.size)) = some (some (.nilFunc : Value), 1) := by kernel_rfl
theorem un107 : Try.prog.underlying 107 = some (.array 32 5) := Try.underlying107
theorem ag107 : aggB Try.prog 107 32 = true := by kernel_rfl
theorem sz107 : (Try.prog.info? 107).map (·.size) = some 32 := by kernel_rfl
theorem zr107 : (Try.prog.info? 107).map (·.zero) = some (some (.agg #[.int .u8 0, .int .u8 0, .int .u8 0, .int .u8 0, .int .u8 0, .int .u8 0, .int .u8 0, .int .u8 0, .int .u8 0, .int .u8 0, .int .u8 0, .int .u8 0, .int .u8 0, .int .u8 0, .int .u8 0, .int .u8 0, .int .u8 0, .int .u8 0, .int .u8 0, .int .u8 0, .int .u8 0, .int .u8 0, .int .u8 0, .int .u8 0, .int .u8 0, .int .u8 0, .int .u8 0, .int .u8 0, .int .u8 0, .int .u8 0, .int .u8 0, .int .u8 0] : Value)) := by kernel_rfl
theorem zs107 : (Try.prog.info? 107).map (fun i => (i.zero, i.size)) = some (some (.agg #[.int .u8 0, .int .u8 0, .int .u8 0, .int .u8 0, .int .u8 0, .int .u8 0, .int .u8 0, .int .u8 0, .int .u8 0, .int .u8 0, .int .u8 0, .int .u8 0, .int .u8 0, .int .u8 0, .int .u8 0, .int .u8 0, .int .u8 0, .int .u8 0, .int .u8 0, .int .u8 0, .int .u8 0, .int .u8 0, .int .u8 0, .int .u8 0, .int .u8 0, .int .u8 0, .int .u8 0, .int .u8 0, .int .u8 0, .int .u8 0, .int .u8 0, .int .u8 0] : Value), 32) := by kernel_rfl
theorem on108 : isOne Try.prog 108 = true := by kernel_rfl
theorem sz108 : (Try.prog.info? 108).map (·.size) = some 1 := by kernel_rfl
theorem zr108 : (Try.prog.info? 108).map (·.zero) = some (some (.nilFunc : Value)) := by kernel_rfl
theorem zs108 : (Try.prog.info? 108).map (fun i => (i.zero, i.size)) = some (some (.nilFunc : Value), 1) := by kernel_rfl
theorem un109 : Try.prog.underlying 109 = some (.slice 29) := Try.underlying109
theorem on109 : isOne Try.prog 109 = true := by kernel_rfl
theorem sz109 : (Try.prog.info? 109).map (·.size) = some 1 := by kernel_rfl
theorem zr109 : (Try.prog.info? 109).map (·.zero) = some (some (.slice none 0 0 : Value)) := by kernel_rfl
theorem zs109 : (Try.prog.info? 109).map (fun i => (i.zero, i.size)) = some (some (.slice none 0 0 : Value), 1) := by kernel_rfl
theorem on110 : isOne Try.prog 110 = true := by kernel_rfl
theorem sz110 : (Try.prog.info? 110).map (·.size) = some 1 := by kernel_rfl
theorem zr110 : (Try.prog.info? 110).map (·.zero) = some (some (.nilFunc : Value)) := by kernel_rfl
theorem zs110 : (Try.prog.info? 110).map (fun i => (i.zero, i.size)) = some (some (.nilFunc : Value), 1) := by kernel_rfl
theorem on111 : isOne Try.prog 111 = true := by kernel_rfl
theorem sz111 : (Try.prog.info? 111).map (·.size) = some 1 := by kernel_rfl
theorem zr111 : (Try.prog.info? 111).map (·.zero) = some (some (.nilFunc : Value)) := by kernel_rfl
theorem zs111 : (Try.prog.info? 111).map (fun i => (i.zero, i.size)) = some (some (.nilFunc : Value), 1) := by kernel_rfl
theorem on112 : isOne Try.prog 112 = true := by kernel_rfl
theorem sz112 : (Try.prog.info? 112).map (·.size) = some 1 := by kernel_rfl
theorem zr112 : (Try.prog.info? 112).map (·.zero) = some (some (.nilFunc : Value)) := by kernel_rfl
theorem zs112 : (Try.prog.info? 112).map (fun i => (i.zero, i.size)) = some (some (.nilFunc : Value), 1) := by kernel_rfl
theorem on113 : isOne Try.prog 113 = true := by kernel_rfl
theorem sz113 : (Try.prog.info? 113).map (·.size) = some 1 := by kernel_rfl
theorem zr113 : (Try.prog.info? 113).map (·.zero) = some (some (.nilFunc : Value)) := by kernel_rfl
theorem zs113 : (Try.prog.info? 113).map (fun i => (i.zero, i.size)) = some (some (.nilFunc : Value), 1) := by kernel_rfl
theorem on114 : isOne Try.prog 114 = true := by kernel_rfl
theorem sz114 : (Try.prog.info? 114).map (·.size) = some 1 := by kernel_rfl
theorem zr114 : (Try.prog.info? 114).map (·.zero) = some (some (.nilFunc : Value)) := by kernel_rfl
theorem zs114 : (Try.prog.info? 114).map (fun i => (i.zero, i.size)) = some (some (.nilFunc : Value), 1) := by kernel_rfl
theorem on115 : isOne Try.prog 115 = true := by kernel_rfl
theorem sz115 : (Try.prog.info? 115).map (·.size) = some 1 := by kernel_rfl
theorem zr115 : (Try.prog.info? 115).map (·.zero) = some (some (.nilFunc : Value)) := by kernel_rfl
theorem zs115 : (Try.prog.info? 115).map (fun i => (i.zero, i.size)) = some (some (.nilFunc : Value), 1) := by kernel_rfl
theorem on117 : isOne Try.prog 117 = true := by kernel_rfl
theorem sz117 : (Try.prog.info? 117).map (·.size) = some 1 := by kernel_rfl
theorem zr117 : (Try.prog.info? 117).map (·.zero) = some (some (.nilFunc : Value)) := by kernel_rfl
theorem zs117 : (Try.prog.info? 117).map (fun i => (i.zero, i.size)) = some (some (.nilFunc : Value), 1) := by kernel_rfl
theorem un118 : Try.prog.underlying 118 = some (.int .u64) := Try.underlying118
theorem on118 : isOne Try.prog 118 = true := by kernel_rfl
theorem sz118 : (Try.prog.info? 118).map (·.size) = some 1 := by kernel_rfl
theorem zr118 : (Try.prog.info? 118).map (·.zero) = some (some (.int .u64 0 : Value)) := by kernel_rfl
theorem zs118 : (Try.prog.info? 118).map (fun i => (i.zero, i.size)) = some (some (.int .u64 0 : Value), 1) := by kernel_rfl
theorem on119 : isOne Try.prog 119 = true := by kernel_rfl
theorem sz119 : (Try.prog.info? 119).map (·.size) = some 1 := by kernel_rfl
theorem zr119 : (Try.prog.info? 119).map (·.zero) = some (some (.nilFunc : Value)) := by kernel_rfl
theorem zs119 : (Try.prog.info? 119).map (fun i => (i.zero, i.size)) = some (some (.nilFunc : Value), 1) := by kernel_rfl
theorem un120 : Try.prog.underlying 120 = some (.pointer 140) := Try.underlying120
theorem on120 : isOne Try.prog 120 = true := by kernel_rfl
theorem sz120 : (Try.prog.info? 120).map (·.size) = some 1 := by kernel_rfl
theorem zr120 : (Try.prog.info? 120).map (·.zero) = some (some (.pointer none : Value)) := by kernel_rfl
theorem zs120 : (Try.prog.info? 120).map (fun i => (i.zero, i.size)) = some (some (.pointer none : Value), 1) := by kernel_rfl
theorem on121 : isOne Try.prog 121 = true := by kernel_rfl
theorem sz121 : (Try.prog.info? 121).map (·.size) = some 1 := by kernel_rfl
theorem zr121 : (Try.prog.info? 121).map (·.zero) = some (some (.nilFunc : Value)) := by kernel_rfl
theorem zs121 : (Try.prog.info? 121).map (fun i => (i.zero, i.size)) = some (some (.nilFunc : Value), 1) := by kernel_rfl
theorem on122 : isOne Try.prog 122 = true := by kernel_rfl
theorem sz122 : (Try.prog.info? 122).map (·.size) = some 1 := by kernel_rfl
theorem zr122 : (Try.prog.info? 122).map (·.zero) = some (some (.nilFunc : Value)) := by kernel_rfl
theorem zs122 : (Try.prog.info? 122).map (fun i => (i.zero, i.size)) = some (some (.nilFunc : Value), 1) := by kernel_rfl
theorem on123 : isOne Try.prog 123 = true := by kernel_rfl
theorem sz123 : (Try.prog.info? 123).map (·.size) = some 1 := by kernel_rfl
theorem zr123 : (Try.prog.info? 123).map (·.zero) = some (some (.nilFunc : Value)) := by kernel_rfl
theorem zs123 : (Try.prog.info? 123).map (fun i => (i.zero, i.size)) = some (some (.nilFunc : Value), 1) := by kernel_rfl
theorem on124 : isOne Try.prog 124 = true := by kernel_rfl
theorem sz124 : (Try.prog.info? 124).map (·.size) = some 1 := by kernel_rfl
theorem zr124 : (Try.prog.info? 124).map (·.zero) = some (some (.nilFunc : Value)) := by kernel_rfl
theorem zs124 : (Try.prog.info? 124).map (fun i => (i.zero, i.size)) = some (some (.nilFunc : Value), 1) := by kernel_rfl
theorem on125 : isOne Try.prog 125 = true := by kernel_rfl
theorem sz125 : (Try.prog.info? 125).map (·.size) = some 1 := by kernel_rfl
theorem zr125 : (Try.prog.info? 125).map (·.zero) = some (some (.nilFunc : Value)) := by kernel_rfl
theorem zs125 : (Try.prog.info? 125).map (fun i => (i.zero, i.size)) = some (some (.nilFunc : Value), 1) := by kernel_rfl
theorem on126 : isOne Try.prog 126 = true := by kernel_rfl
theorem sz126 : (Try.prog.info? 126).map (·.size) = some 1 := by kernel_rfl
theorem zr126 : (Try.prog.info? 126).map (·.zero) = some (some (.nilFunc : Value)) := by kernel_rfl
theorem zs126 : (Try.prog.info? 126).map (fun i => (i.zero, i.size)) = some (some (.nilFunc : Value), 1) := by kernel_rfl
theorem un127 : Try.prog.underlying 127 = some (.slice 50) := Try.underlying127
theorem on127 : isOne Try.prog 127 = true := by kernel_rfl
theorem sz127 : (Try.prog.info? 127).map (·.size) = some 1 := by kernel_rfl
theorem zr127 : (Try.prog.info? 127).map (·.zero) = some (some (.slice none 0 0 : Value)) := by kernel_rfl
theorem zs127 : (Try.prog.info? 127).map (fun i => (i.zero, i.size)) = some (some (.slice none 0 0 : Value), 1) := by kernel_rfl
theorem un128 : Try.prog.underlying 128 = some (.pointer 148) := Try.underlying128
theorem on128 : isOne Try.prog 128 = true := by kernel_rfl
theorem sz128 : (Try.prog.info? 128).map (·.size) = some 1 := by kernel_rfl
theorem zr128 : (Try.prog.info? 128).map (·.zero) = some (some (.pointer none : Value)) := by kernel_rfl
theorem zs128 : (Try.prog.info? 128).map (fun i => (i.zero, i.size)) = some (some (.pointer none : Value), 1) := by kernel_rfl
theorem on129 : isOne Try.prog 129 = true := by kernel_rfl
theorem sz129 : (Try.prog.info? 129).map (·.size) = some 1 := by kernel_rfl
theorem zr129 : (Try.prog.info? 129).map (·.zero) = some (some (.nilFunc : Value)) := by kernel_rfl
theorem zs129 : (Try.prog.info? 129).map (fun i => (i.zero, i.size)) = some (some (.nilFunc : Value), 1) := by kernel_rfl
theorem on130 : isOne Try.prog 130 = true := by kernel_rfl
theorem sz130 : (Try.prog.info? 130).map (·.size) = some 1 := by kernel_rfl
theorem zr130 : (Try.prog.info? 130).map (·.zero) = some (some (.nilFunc : Value)) := by kernel_rfl
theorem zs130 : (Try.prog.info? 130).map (fun i => (i.zero, i.size)) = some (some (.nilFunc : Value), 1) := by kernel_rfl
theorem un131 : Try.prog.underlying 131 = some (.int .u32) := Try.underlying131
theorem on131 : isOne Try.prog 131 = true := by kernel_rfl
theorem sz131 : (Try.prog.info? 131).map (·.size) = some 1 := by kernel_rfl
theorem zr131 : (Try.prog.info? 131).map (·.zero) = some (some (.int .u32 0 : Value)) := by kernel_rfl
theorem zs131 : (Try.prog.info? 131).map (fun i => (i.zero, i.size)) = some (some (.int .u32 0 : Value), 1) := by kernel_rfl
theorem on132 : isOne Try.prog 132 = true := by kernel_rfl
theorem sz132 : (Try.prog.info? 132).map (·.size) = some 1 := by kernel_rfl
theorem zr132 : (Try.prog.info? 132).map (·.zero) = some (some (.nilFunc : Value)) := by kernel_rfl
theorem zs132 : (Try.prog.info? 132).map (fun i => (i.zero, i.size)) = some (some (.nilFunc : Value), 1) := by kernel_rfl
theorem un133 : Try.prog.underlying 133 = some (.pointer 152) := Try.underlying133
theorem on133 : isOne Try.prog 133 = true := by kernel_rfl
theorem sz133 : (Try.prog.info? 133).map (·.size) = some 1 := by kernel_rfl
theorem zr133 : (Try.prog.info? 133).map (·.zero) = some (some (.pointer none : Value)) := by kernel_rfl
theorem zs133 : (Try.prog.info? 133).map (fun i => (i.zero, i.size)) = some (some (.pointer none : Value), 1) := by kernel_rfl
theorem on134 : isOne Try.prog 134 = true := by kernel_rfl
theorem sz134 : (Try.prog.info? 134).map (·.size) = some 1 := by kernel_rfl
theorem zr134 : (Try.prog.info? 134).map (·.zero) = some (some (.nilFunc : Value)) := by kernel_rfl
theorem zs134 : (Try.prog.info? 134).map (fun i => (i.zero, i.size)) = some (some (.nilFunc : Value), 1) := by kernel_rfl
theorem on135 : isOne Try.prog 135 = true := by kernel_rfl
theorem sz135 : (Try.prog.info? 135).map (·.size) = some 1 := by kernel_rfl
theorem zr135 : (Try.prog.info? 135).map (·.zero) = some (some (.nilFunc : Value)) := by kernel_rfl
theorem zs135 : (Try.prog.info? 135).map (fun i => (i.zero, i.size)) = some (some (.nilFunc : Value), 1) := by kernel_rfl
theorem on136 : isOne Try.prog 136 = true := by kernel_rfl
theorem sz136 : (Try.prog.info? 136).map (·.size) = some 1 := by kernel_rfl
theorem zr136 : (Try.prog.info? 136).map (·.zero) = some (some (.nilFunc : Value)) := by kernel_rfl
theorem zs136 : (Try.prog.info? 136).map (fun i => (i.zero, i.size)) = some (some (.nilFunc : Value), 1) := by kernel_rfl
theorem on137 : isOne Try.prog 137 = true := by kernel_rfl
theorem sz137 : (Try.prog.info? 137).map (·.size) = some 1 := by kernel_rfl
theorem zr137 : (Try.prog.info? 137).map (·.zero) = some (some (.nilFunc : Value)) := by kernel_rfl
theorem zs137 : (Try.prog.info? 137).map (fun i => (i.zero, i.size)) = some (some (.nilFunc : Value), 1) := by kernel_rfl
theorem on138 : isOne Try.prog 138 = true := by kernel_rfl
theorem sz138 : (Try.prog.info? 138).map (·.size) = some 1 := by kernel_rfl
theorem zr138 : (Try.prog.info? 138).map (·.zero) = some (some (.nilFunc : Value)) := by kernel_rfl
theorem zs138 : (Try.prog.info? 138).map (fun i => (i.zero, i.size)) = some (some (.nilFunc : Value), 1) := by kernel_rfl
theorem ag139 : aggB Try.prog 139 3 = true := by kernel_rfl
theorem sz139 : (Try.prog.info? 139).map (·.size) = some 3 := by kernel_rfl
theorem fo139_0 : fieldOff Try.prog 139 0 = some 0 := by kernel_rfl
theorem fo139_1 : fieldOff Try.prog 139 1 = some 1 := by kernel_rfl
theorem fo139_2 : fieldOff Try.prog 139 2 = some 2 := by kernel_rfl
theorem zr139 : (Try.prog.info? 139).map (·.zero) = some (some (.agg #[.slice none 0 0, .int .i64 0, .bool false] : Value)) := by kernel_rfl
theorem zs139 : (Try.prog.info? 139).map (fun i => (i.zero, i.size)) = some (some (.agg #[.slice none 0 0, .int .i64 0, .bool false] : Value), 3) := by kernel_rfl
theorem ag140 : aggB Try.prog 140 3 = true := by kernel_rfl
theorem sz140 : (Try.prog.info? 140).map (·.size) = some 3 := by kernel_rfl
theorem fo140_0 : fieldOff Try.prog 140 0 = some 0 := by kernel_rfl
theorem fo140_1 : fieldOff Try.prog 140 1 = some 1 := by kernel_rfl
theorem fo140_2 : fieldOff Try.prog 140 2 = some 2 := by kernel_rfl
theorem zr140 : (Try.prog.info? 140).map (·.zero) = some (some (.agg #[.slice none 0 0, .int .i64 0, .bool false] : Value)) := by kernel_rfl
theorem zs140 : (Try.prog.info? 140).map (fun i => (i.zero, i.size)) = some (some (.agg #[.slice none 0 0, .int .i64 0, .bool false] : Value), 3) := by kernel_rfl
theorem un141 : Try.prog.underlying 141 = some (.slice 4) := Try.underlying141
theorem on141 : isOne Try.prog 141 = true := by kernel_rfl
theorem sz141 : (Try.prog.info? 141).map (·.size) = some 1 := by kernel_rfl
theorem zr141 : (Try.prog.info? 141).map (·.zero) = some (some (.slice none 0 0 : Value)) := by kernel_rfl
theorem zs141 : (Try.prog.info? 141).map (fun i => (i.zero, i.size)) = some (some (.slice none 0 0 : Value), 1) := by kernel_rfl
theorem un142 : Try.prog.underlying 142 = some (.slice 131) := Try.underlying142
theorem on142 : isOne Try.prog 142 = true := by kernel_rfl
theorem sz142 : (Try.prog.info? 142).map (·.size) = some 1 := by kernel_rfl
theorem zr142 : (Try.prog.info? 142).map (·.zero) = some (some (.slice none 0 0 : Value)) := by kernel_rfl
theorem zs142 : (Try.prog.info? 142).map (fun i => (i.zero, i.size)) = some (some (.slice none 0 0 : Value), 1) := by kernel_rfl
theorem on143 : isOne Try.prog 143 = true := by kernel_rfl
theorem sz143 : (Try.prog.info? 143).map (·.size) = some 1 := by kernel_rfl
theorem zr143 : (Try.prog.info? 143).map (·.zero) = some (some (.nilFunc : Value)) := by kernel_rfl
theorem zs143 : (Try.prog.info? 143).map (fun i => (i.zero, i.size)) = some (some (.nilFunc : Value), 1) := by kernel_rfl
theorem un144 : Try.prog.underlying 144 = some (.array 3 3) := Try.underlying144
theorem ag144 : aggB Try.prog 144 3 = true := by kernel_rfl
theorem sz144 : (Try.prog.info? 144).map (·.size) = some 3 := by kernel_rfl
theorem zr144 : (Try.prog.info? 144).map (·.zero) = some (some (.agg #[.int .i64 0, .int .i64 0, .int .i64 0] : Value)) := by kernel_rfl
theorem zs144 : (Try.prog.info? 144).map (fun i => (i.zero, i.size)) = some (some (.agg #[.int .i64 0, .int .i64 0, .int .i64 0] : Value), 3) := by kernel_rfl
theorem ag145 : aggB Try.prog 145 12 = true := by kernel_rfl
theorem sz145 : (Try.prog.info? 145).map (·.size) = some 12 := by kernel_rfl
theorem fo145_0 : fieldOff Try.prog 145 0 = some 0 := by kernel_rfl
theorem fo145_1 : fieldOff Try.prog 145 1 = some 3 := by kernel_rfl
theorem fo145_2 : fieldOff Try.prog 145 2 = some 6 := by kernel_rfl
theorem fo145_3 : fieldOff Try.prog 145 3 = some 9 := by kernel_rfl
theorem zr145 : (Try.prog.info? 145).map (·.zero) = some (some (.agg #[.int .i64 0, .int .i64 0, .int .i64 0, .int .i64 0, .int .i64 0, .int .i64 0, .int .i64 0, .int .i64 0, .int .i64 0, .int .i64 0, .int .i64 0, .int .i64 0] : Value)) := by kernel_rfl
theorem zs145 : (Try.prog.info? 145).map (fun i => (i.zero, i.size)) = some (some (.agg #[.int .i64 0, .int .i64 0, .int .i64 0, .int .i64 0, .int .i64 0, .int .i64 0, .int .i64 0, .int .i64 0, .int .i64 0, .int .i64 0, .int .i64 0, .int .i64 0] : Value), 12) := by kernel_rfl
theorem ag146 : aggB Try.prog 146 12 = true := by kernel_rfl
theorem sz146 : (Try.prog.info? 146).map (·.size) = some 12 := by kernel_rfl
theorem fo146_0 : fieldOff Try.prog 146 0 = some 0 := by kernel_rfl
theorem fo146_1 : fieldOff Try.prog 146 1 = some 3 := by kernel_rfl
theorem fo146_2 : fieldOff Try.prog 146 2 = some 6 := by kernel_rfl
theorem fo146_3 : fieldOff Try.prog 146 3 = some 9 := by kernel_rfl
theorem zr146 : (Try.prog.info? 146).map (·.zero) = some (some (.agg #[.int .i64 0, .int .i64 0, .int .i64 0, .int .i64 0, .int .i64 0, .int .i64 0, .int .i64 0, .int .i64 0, .int .i64 0, .int .i64 0, .int .i64 0, .int .i64 0] : Value)) := by kernel_rfl
theorem zs146 : (Try.prog.info? 146).map (fun i => (i.zero, i.size)) = some (some (.agg #[.int .i64 0, .int .i64 0, .int .i64 0, .int .i64 0, .int .i64 0, .int .i64 0, .int .i64 0, .int .i64 0, .int .i64 0, .int .i64 0, .int .i64 0, .int .i64 0] : Value), 12) := by kernel_rfl
theorem ag147 : aggB Try.prog 147 15 = true := by kernel_rfl
theorem sz147 : (Try.prog.info? 147).map (·.size) = some 15 := by kernel_rfl
theorem fo147_0 : fieldOff Try.prog 147 0 = some 0 := by kernel_rfl
theorem fo147_1 : fieldOff Try.prog 147 1 = some 1 := by kernel_rfl
theorem fo147_2 : fieldOff Try.prog 147 2 = some 2 := by kernel_rfl
theorem fo147_3 : fieldOff Try.prog 147 3 = some 3 := by kernel_rfl
theorem zr147 : (Try.prog.info? 147).map (·.zero) = some (some (.agg #[.slice none 0 0, .slice none 0 0, .int .i64 0, .int .i64 0, .int .i64 0, .int .i64 0, .int .i64 0, .int .i64 0, .int .i64 0, .int .i64 0, .int .i64 0, .int .i64 0, .int .i64 0, .int .i64 0, .int .i64 0] : Value)) := by kernel_rfl
theorem zs147 : (Try.prog.info? 147).map (fun i => (i.zero, i.size)) = some (some (.agg #[.slice none 0 0, .slice none 0 0, .int .i64 0, .int .i64 0, .int .i64 0, .int .i64 0, .int .i64 0, .int .i64 0, .int .i64 0, .int .i64 0, .int .i64 0, .int .i64 0, .int .i64 0, .int .i64 0, .int .i64 0] : Value), 15) := by kernel_rfl
theorem ag148 : aggB Try.prog 148 15 = true := by kernel_rfl
theorem sz148 : (Try.prog.info? 148).map (·.size) = some 15 := by kernel_rfl
theorem fo148_0 : fieldOff Try.prog 148 0 = some 0 := by kernel_rfl
theorem fo148_1 : fieldOff Try.prog 148 1 = some 1 := by kernel_rfl
theorem fo148_2 : fieldOff Try.prog 148 2 = some 2 := by kernel_rfl
theorem fo148_3 : fieldOff Try.prog 148 3 = some 3 := by kernel_rfl
theorem zr148 : (Try.prog.info? 148).map (·.zero) = some (some (.agg #[.slice none 0 0, .slice none 0 0, .int .i64 0, .int .i64 0, .int .i64 0, .int .i64 0, .int .i64 0, .int .i64 0, .int .i64 0, .int .i64 0, .int .i64 0, .int .i64 0, .int .i64 0, .int .i64 0, .int .i64 0] : Value)) := by kernel_rfl
theorem zs148 : (Try.prog.info? 148).map (fun i => (i.zero, i.size)) = some (some (.agg #[.slice none 0 0, .slice none 0 0, .int .i64 0, .int .i64 0, .int .i64 0, .int .i64 0, .int .i64 0, .int .i64 0, .int .i64 0, .int .i64 0, .int .i64 0, .int .i64 0, .int .i64 0, .int .i64 0, .int .i64 0] : Value), 15) := by kernel_rfl
theorem on149 : isOne Try.prog 149 = true := by kernel_rfl
theorem sz149 : (Try.prog.info? 149).map (·.size) = some 1 := by kernel_rfl
theorem zr149 : (Try.prog.info? 149).map (·.zero) = some (some (.nilFunc : Value)) := by kernel_rfl
theorem zs149 : (Try.prog.info? 149).map (fun i => (i.zero, i.size)) = some (some (.nilFunc : Value), 1) := by kernel_rfl
theorem on150 : isOne Try.prog 150 = true := by kernel_rfl
theorem sz150 : (Try.prog.info? 150).map (·.size) = some 1 := by kernel_rfl
theorem zr150 : (Try.prog.info? 150).map (·.zero) = some (some (.nilFunc : Value)) := by kernel_rfl
theorem zs150 : (Try.prog.info? 150).map (fun i => (i.zero, i.size)) = some (some (.nilFunc : Value), 1) := by kernel_rfl
theorem ag151 : aggB Try.prog 151 2 = true := by kernel_rfl
theorem sz151 : (Try.prog.info? 151).map (·.size) = some 2 := by kernel_rfl
theorem fo151_0 : fieldOff Try.prog 151 0 = some 0 := by kernel_rfl
theorem fo151_1 : fieldOff Try.prog 151 1 = some 1 := by kernel_rfl
theorem zr151 : (Try.prog.info? 151).map (·.zero) = some (some (.agg #[.slice none 0 0, .bool false] : Value)) := by kernel_rfl
theorem zs151 : (Try.prog.info? 151).map (fun i => (i.zero, i.size)) = some (some (.agg #[.slice none 0 0, .bool false] : Value), 2) := by kernel_rfl
theorem ag152 : aggB Try.prog 152 2 = true := by kernel_rfl
theorem sz152 : (Try.prog.info? 152).map (·.size) = some 2 := by kernel_rfl
theorem fo152_0 : fieldOff Try.prog 152 0 = some 0 := by kernel_rfl
theorem fo152_1 : fieldOff Try.prog 152 1 = some 1 := by kernel_rfl
theorem zr152 : (Try.prog.info? 152).map (·.zero) = some (some (.agg #[.slice none 0 0, .bool false] : Value)) := by kernel_rfl
theorem zs152 : (Try.prog.info? 152).map (fun i => (i.zero, i.size)) = some (some (.agg #[.slice none 0 0, .bool false] : Value), 2) := by kernel_rfl
theorem on153 : isOne Try.prog 153 = true := by kernel_rfl
theorem sz153 : (Try.prog.info? 153).map (·.size) = some 1 := by kernel_rfl
theorem zr153 : (Try.prog.info? 153).map (·.zero) = some (some (.nilFunc : Value)) := by kernel_rfl
theorem zs153 : (Try.prog.info? 153).map (fun i => (i.zero, i.size)) = some (some (.nilFunc : Value), 1) := by kernel_rfl
theorem on154 : isOne Try.prog 154 = true := by kernel_rfl
theorem sz154 : (Try.prog.info? 154).map (·.size) = some 1 := by kernel_rfl
theorem zr154 : (Try.prog.info? 154).map (·.zero) = some (some (.nilFunc : Value)) := by kernel_rfl
theorem zs154 : (Try.prog.info? 154).map (fun i => (i.zero, i.size)) = some (some (.nilFunc : Value), 1) := by kernel_rfl
theorem un155 : Try.prog.underlying 155 = some (.array 8 131) := Try.underlying155
theorem ag155 : aggB Try.prog 155 8 = true := by kernel_rfl
theorem sz155 : (Try.prog.info? 155).map (·.size) = some 8 := by kernel_rfl
theorem zr155 : (Try.prog.info? 155).map (·.zero) = some (some (.agg #[.int .u32 0, .int .u32 0, .int .u32 0, .int .u32 0, .int .u32 0, .int .u32 0, .int .u32 0, .int .u32 0] : Value)) := by kernel_rfl
theorem zs155 : (Try.prog.info? 155).map (fun i => (i.zero, i.size)) = some (some (.agg #[.int .u32 0, .int .u32 0, .int .u32 0, .int .u32 0, .int .u32 0, .int .u32 0, .int .u32 0, .int .u32 0] : Value), 8) := by kernel_rfl
theorem on156 : isOne Try.prog 156 = true := by kernel_rfl
theorem sz156 : (Try.prog.info? 156).map (·.size) = some 1 := by kernel_rfl
theorem zr156 : (Try.prog.info? 156).map (·.zero) = some (some (.nilFunc : Value)) := by kernel_rfl
theorem zs156 : (Try.prog.info? 156).map (fun i => (i.zero, i.size)) = some (some (.nilFunc : Value), 1) := by kernel_rfl
theorem on157 : isOne Try.prog 157 = true := by kernel_rfl
theorem sz157 : (Try.prog.info? 157).map (·.size) = some 1 := by kernel_rfl
theorem zr157 : (Try.prog.info? 157).map (·.zero) = some (some (.nilFunc : Value)) := by kernel_rfl
theorem zs157 : (Try.prog.info? 157).map (fun i => (i.zero, i.size)) = some (some (.nilFunc : Value), 1) := by kernel_rfl
theorem ag158 : aggB Try.prog 158 4 = true := by kernel_rfl
theorem sz158 : (Try.prog.info? 158).map (·.size) = some 4 := by kernel_rfl
theorem fo158_0 : fieldOff Try.prog 158 0 = some 0 := by kernel_rfl
theorem fo158_1 : fieldOff Try.prog 158 1 = some 1 := by kernel_rfl
theorem fo158_2 : fieldOff Try.prog 158 2 = some 2 := by kernel_rfl
theorem fo158_3 : fieldOff Try.prog 158 3 = some 3 := by kernel_rfl
theorem zr158 : (Try.prog.info? 158).map (·.zero) = some (some (.agg #[.pointer none, .pointer none, .pointer none, .string ByteArray.empty] : Value)) := by kernel_rfl
theorem zs158 : (Try.prog.info? 158).map (fun i => (i.zero, i.size)) = some (some (.agg #[.pointer none, .pointer none, .pointer none, .string ByteArray.empty] : Value), 4) := by kernel_rfl
theorem ag159 : aggB Try.prog 159 4 = true := by kernel_rfl
theorem sz159 : (Try.prog.info? 159).map (·.size) = some 4 := by kernel_rfl
theorem fo159_0 : fieldOff Try.prog 159 0 = some 0 := by kernel_rfl
theorem fo159_1 : fieldOff Try.prog 159 1 = some 1 := by kernel_rfl
theorem fo159_2 : fieldOff Try.prog 159 2 = some 2 := by kernel_rfl
theorem fo159_3 : fieldOff Try.prog 159 3 = some 3 := by kernel_rfl
theorem zr159 : (Try.prog.info? 159).map (·.zero) = some (some (.agg #[.pointer none, .pointer none, .pointer none, .string ByteArray.empty] : Value)) := by kernel_rfl
theorem zs159 : (Try.prog.info? 159).map (fun i => (i.zero, i.size)) = some (some (.agg #[.pointer none, .pointer none, .pointer none, .string ByteArray.empty] : Value), 4) := by kernel_rfl
theorem un160 : Try.prog.underlying 160 = some (.array 0 16) := Try.underlying160
theorem sz160 : (Try.prog.info? 160).map (·.size) = some 0 := by kernel_rfl
theorem zr160 : (Try.prog.info? 160).map (·.zero) = some (some (.agg #[] : Value)) := by kernel_rfl
theorem zs160 : (Try.prog.info? 160).map (fun i => (i.zero, i.size)) = some (some (.agg #[] : Value), 0) := by kernel_rfl
theorem sz161 : (Try.prog.info? 161).map (·.size) = some 0 := by kernel_rfl
theorem zr161 : (Try.prog.info? 161).map (·.zero) = some (some (.agg #[] : Value)) := by kernel_rfl
theorem zs161 : (Try.prog.info? 161).map (fun i => (i.zero, i.size)) = some (some (.agg #[] : Value), 0) := by kernel_rfl
theorem sz162 : (Try.prog.info? 162).map (·.size) = some 0 := by kernel_rfl
theorem zr162 : (Try.prog.info? 162).map (·.zero) = some (some (.agg #[] : Value)) := by kernel_rfl
theorem zs162 : (Try.prog.info? 162).map (fun i => (i.zero, i.size)) = some (some (.agg #[] : Value), 0) := by kernel_rfl
theorem un163 : Try.prog.underlying 163 = some (.int .u8) := Try.underlying163
theorem on163 : isOne Try.prog 163 = true := by kernel_rfl
theorem sz163 : (Try.prog.info? 163).map (·.size) = some 1 := by kernel_rfl
theorem zr163 : (Try.prog.info? 163).map (·.zero) = some (some (.int .u8 0 : Value)) := by kernel_rfl
theorem zs163 : (Try.prog.info? 163).map (fun i => (i.zero, i.size)) = some (some (.int .u8 0 : Value), 1) := by kernel_rfl
theorem un164 : Try.prog.underlying 164 = some (.int .u8) := Try.underlying164
theorem on164 : isOne Try.prog 164 = true := by kernel_rfl
theorem sz164 : (Try.prog.info? 164).map (·.size) = some 1 := by kernel_rfl
theorem zr164 : (Try.prog.info? 164).map (·.zero) = some (some (.int .u8 0 : Value)) := by kernel_rfl
theorem zs164 : (Try.prog.info? 164).map (fun i => (i.zero, i.size)) = some (some (.int .u8 0 : Value), 1) := by kernel_rfl
theorem on165 : isOne Try.prog 165 = true := by kernel_rfl
theorem sz165 : (Try.prog.info? 165).map (·.size) = some 1 := by kernel_rfl
theorem zr165 : (Try.prog.info? 165).map (·.zero) = some (some (.nilFunc : Value)) := by kernel_rfl
theorem zs165 : (Try.prog.info? 165).map (fun i => (i.zero, i.size)) = some (some (.nilFunc : Value), 1) := by kernel_rfl
theorem un166 : Try.prog.underlying 166 = some (.pointer 5) := Try.underlying166
theorem on166 : isOne Try.prog 166 = true := by kernel_rfl
theorem sz166 : (Try.prog.info? 166).map (·.size) = some 1 := by kernel_rfl
theorem zr166 : (Try.prog.info? 166).map (·.zero) = some (some (.pointer none : Value)) := by kernel_rfl
theorem zs166 : (Try.prog.info? 166).map (fun i => (i.zero, i.size)) = some (some (.pointer none : Value), 1) := by kernel_rfl
theorem un167 : Try.prog.underlying 167 = some (.int .i32) := Try.underlying167
theorem on167 : isOne Try.prog 167 = true := by kernel_rfl
theorem sz167 : (Try.prog.info? 167).map (·.size) = some 1 := by kernel_rfl
theorem zr167 : (Try.prog.info? 167).map (·.zero) = some (some (.int .i32 0 : Value)) := by kernel_rfl
theorem zs167 : (Try.prog.info? 167).map (fun i => (i.zero, i.size)) = some (some (.int .i32 0 : Value), 1) := by kernel_rfl
theorem un168 : Try.prog.underlying 168 = some (.int .i32) := Try.underlying168
theorem on168 : isOne Try.prog 168 = true := by kernel_rfl
theorem sz168 : (Try.prog.info? 168).map (·.size) = some 1 := by kernel_rfl
theorem zr168 : (Try.prog.info? 168).map (·.zero) = some (some (.int .i32 0 : Value)) := by kernel_rfl
theorem zs168 : (Try.prog.info? 168).map (fun i => (i.zero, i.size)) = some (some (.int .i32 0 : Value), 1) := by kernel_rfl
theorem ag169 : aggB Try.prog 169 11 = true := by kernel_rfl
theorem sz169 : (Try.prog.info? 169).map (·.size) = some 11 := by kernel_rfl
theorem fo169_0 : fieldOff Try.prog 169 0 = some 0 := by kernel_rfl
theorem fo169_1 : fieldOff Try.prog 169 1 = some 1 := by kernel_rfl
theorem fo169_2 : fieldOff Try.prog 169 2 = some 2 := by kernel_rfl
theorem fo169_3 : fieldOff Try.prog 169 3 = some 3 := by kernel_rfl
theorem fo169_4 : fieldOff Try.prog 169 4 = some 4 := by kernel_rfl
theorem fo169_5 : fieldOff Try.prog 169 5 = some 5 := by kernel_rfl
theorem fo169_6 : fieldOff Try.prog 169 6 = some 6 := by kernel_rfl
theorem fo169_7 : fieldOff Try.prog 169 7 = some 7 := by kernel_rfl
theorem fo169_8 : fieldOff Try.prog 169 8 = some 8 := by kernel_rfl
theorem fo169_9 : fieldOff Try.prog 169 9 = some 9 := by kernel_rfl
theorem fo169_10 : fieldOff Try.prog 169 10 = some 10 := by kernel_rfl
theorem zr169 : (Try.prog.info? 169).map (·.zero) = some (some (.agg #[.int .u64 0, .int .u64 0, .int .u32 0, .int .u8 0, .int .u8 0, .int .u8 0, .int .u8 0, .nilFunc, .pointer none, .int .i32 0, .int .i32 0] : Value)) := by kernel_rfl
theorem zs169 : (Try.prog.info? 169).map (fun i => (i.zero, i.size)) = some (some (.agg #[.int .u64 0, .int .u64 0, .int .u32 0, .int .u8 0, .int .u8 0, .int .u8 0, .int .u8 0, .nilFunc, .pointer none, .int .i32 0, .int .i32 0] : Value), 11) := by kernel_rfl
theorem ag170 : aggB Try.prog 170 11 = true := by kernel_rfl
theorem sz170 : (Try.prog.info? 170).map (·.size) = some 11 := by kernel_rfl
theorem fo170_0 : fieldOff Try.prog 170 0 = some 0 := by kernel_rfl
theorem fo170_1 : fieldOff Try.prog 170 1 = some 1 := by kernel_rfl
theorem fo170_2 : fieldOff Try.prog 170 2 = some 2 := by kernel_rfl
theorem fo170_3 : fieldOff Try.prog 170 3 = some 3 := by kernel_rfl
theorem fo170_4 : fieldOff Try.prog 170 4 = some 4 := by kernel_rfl
theorem fo170_5 : fieldOff Try.prog 170 5 = some 5 := by kernel_rfl
theorem fo170_6 : fieldOff Try.prog 170 6 = some 6 := by kernel_rfl
theorem fo170_7 : fieldOff Try.prog 170 7 = some 7 := by kernel_rfl
theorem fo170_8 : fieldOff Try.prog 170 8 = some 8 := by kernel_rfl
theorem fo170_9 : fieldOff Try.prog 170 9 = some 9 := by kernel_rfl
theorem fo170_10 : fieldOff Try.prog 170 10 = some 10 := by kernel_rfl
theorem zr170 : (Try.prog.info? 170).map (·.zero) = some (some (.agg #[.int .u64 0, .int .u64 0, .int .u32 0, .int .u8 0, .int .u8 0, .int .u8 0, .int .u8 0, .nilFunc, .pointer none, .int .i32 0, .int .i32 0] : Value)) := by kernel_rfl
theorem zs170 : (Try.prog.info? 170).map (fun i => (i.zero, i.size)) = some (some (.agg #[.int .u64 0, .int .u64 0, .int .u32 0, .int .u8 0, .int .u8 0, .int .u8 0, .int .u8 0, .nilFunc, .pointer none, .int .i32 0, .int .i32 0] : Value), 11) := by kernel_rfl
theorem on171 : isOne Try.prog 171 = true := by kernel_rfl
theorem sz171 : (Try.prog.info? 171).map (·.size) = some 1 := by kernel_rfl
theorem zr171 : (Try.prog.info? 171).map (·.zero) = some (some (.nilFunc : Value)) := by kernel_rfl
theorem zs171 : (Try.prog.info? 171).map (fun i => (i.zero, i.size)) = some (some (.nilFunc : Value), 1) := by kernel_rfl
theorem zb22_31 : (Try.prog.info? 31).map (fun i => (i.zero, i.size, i.bytes)) = some (some (.agg #[.int .u8 0, .int .u8 0, .int .u8 0, .int .u8 0, .int .u8 0, .int .u8 0, .int .u8 0, .int .u8 0, .int .u8 0, .int .u8 0, .int .u8 0, .int .u8 0, .int .u8 0, .int .u8 0, .int .u8 0, .int .u8 0, .int .u8 0, .bool false, .int .u8 0, .int .u64 0, .int .u64 0, .int .u64 0] : Value), 22, 48) := by kernel_rfl
theorem sl22 : SlT Try.prog 22 31 (.agg #[.int .u8 0, .int .u8 0, .int .u8 0, .int .u8 0, .int .u8 0, .int .u8 0, .int .u8 0, .int .u8 0, .int .u8 0, .int .u8 0, .int .u8 0, .int .u8 0, .int .u8 0, .int .u8 0, .int .u8 0, .int .u8 0, .int .u8 0, .bool false, .int .u8 0, .int .u64 0, .int .u64 0, .int .u64 0] : Value) 22 48 := SlT.mk' un22 zb22_31 rfl (by decide)
theorem zb50_5 : (Try.prog.info? 5).map (fun i => (i.zero, i.size, i.bytes)) = some (some (.int .u8 0 : Value), 1, 1) := by kernel_rfl
theorem sl50 : SlT Try.prog 50 5 (.int .u8 0 : Value) 1 1 := SlT.mk' un50 zb50_5 rfl (by decide)
theorem zb56_22 : (Try.prog.info? 22).map (fun i => (i.zero, i.size, i.bytes)) = some (some (.slice none 0 0 : Value), 1, 24) := by kernel_rfl
theorem sl56 : SlT Try.prog 56 22 (.slice none 0 0 : Value) 1 24 := SlT.mk' un56 zb56_22 rfl (by decide)
theorem zb57_25 : (Try.prog.info? 25).map (fun i => (i.zero, i.size, i.bytes)) = some (some (.pointer none : Value), 1, 8) := by kernel_rfl
theorem sl57 : SlT Try.prog 57 25 (.pointer none : Value) 1 8 := SlT.mk' un57 zb57_25 rfl (by decide)
theorem zb62_92 : (Try.prog.info? 92).map (fun i => (i.zero, i.size, i.bytes)) = some (some (.int .u16 0 : Value), 1, 2) := by kernel_rfl
theorem sl62 : SlT Try.prog 62 92 (.int .u16 0 : Value) 1 2 := SlT.mk' un62 zb62_92 rfl (by decide)
theorem zb100_3 : (Try.prog.info? 3).map (fun i => (i.zero, i.size, i.bytes)) = some (some (.int .i64 0 : Value), 1, 8) := by kernel_rfl
theorem sl100 : SlT Try.prog 100 3 (.int .i64 0 : Value) 1 8 := SlT.mk' un100 zb100_3 rfl (by decide)
theorem zb109_29 : (Try.prog.info? 29).map (fun i => (i.zero, i.size, i.bytes)) = some (some (.int .u64 0 : Value), 1, 8) := by kernel_rfl
theorem sl109 : SlT Try.prog 109 29 (.int .u64 0 : Value) 1 8 := SlT.mk' un109 zb109_29 rfl (by decide)
theorem zb127_50 : (Try.prog.info? 50).map (fun i => (i.zero, i.size, i.bytes)) = some (some (.slice none 0 0 : Value), 1, 24) := by kernel_rfl
theorem sl127 : SlT Try.prog 127 50 (.slice none 0 0 : Value) 1 24 := SlT.mk' un127 zb127_50 rfl (by decide)
theorem zb141_4 : (Try.prog.info? 4).map (fun i => (i.zero, i.size, i.bytes)) = some (some (.bool false : Value), 1, 1) := by kernel_rfl
theorem sl141 : SlT Try.prog 141 4 (.bool false : Value) 1 1 := SlT.mk' un141 zb141_4 rfl (by decide)
theorem zb142_131 : (Try.prog.info? 131).map (fun i => (i.zero, i.size, i.bytes)) = some (some (.int .u32 0 : Value), 1, 4) := by kernel_rfl
theorem sl142 : SlT Try.prog 142 131 (.int .u32 0 : Value) 1 4 := SlT.mk' un142 zb142_131 rfl (by decide)
theorem en3 : ∀ args w, (callFunc 3 args).run Try.prog w = .ok (.enter 3 args) w := enters Try.func3 (by kernel_rfl) rfl -- hailer/hailerlaw36.MergeTakes
theorem en4 : ∀ args w, (callFunc 4 args).run Try.prog w = .ok (.enter 4 args) w := enters Try.func4 (by kernel_rfl) rfl -- hailer/hailerlaw36.MergeViews
theorem en5 : ∀ args w, (callFunc 5 args).run Try.prog w = .ok (.enter 5 args) w := enters Try.func5 (by kernel_rfl) rfl -- hailer/hailerlaw36.MergeAny
theorem en6 : ∀ args w, (callFunc 6 args).run Try.prog w = .ok (.enter 6 args) w := enters Try.func6 (by kernel_rfl) rfl -- hailer/hailerlaw36.known
theorem en7 : ∀ args w, (callFunc 7 args).run Try.prog w = .ok (.enter 7 args) w := enters Try.func7 (by kernel_rfl) rfl -- hailer/hailerlaw36.heavy
theorem en8 : ∀ args w, (callFunc 8 args).run Try.prog w = .ok (.enter 8 args) w := enters Try.func8 (by kernel_rfl) rfl -- hailer/merge.New
theorem en9 : ∀ args w, (callFunc 9 args).run Try.prog w = .ok (.enter 9 args) w := enters Try.func9 (by kernel_rfl) rfl -- (*hailer/merge.Book).Take
theorem en10 : ∀ args w, (callFunc 10 args).run Try.prog w = .ok (.enter 10 args) w := enters Try.func10 (by kernel_rfl) rfl -- hailer/hailerref36.Take
theorem en11 : ∀ args w, (callFunc 11 args).run Try.prog w = .ok (.enter 11 args) w := enters Try.func11 (by kernel_rfl) rfl -- (*hailer/merge.Book).Find
theorem en12 : ∀ args w, (callFunc 12 args).run Try.prog w = .ok (.enter 12 args) w := enters Try.func12 (by kernel_rfl) rfl -- hailer/merge.Better
theorem en13 : ∀ args w, (callFunc 13 args).run Try.prog w = .ok (.enter 13 args) w := enters Try.func13 (by kernel_rfl) rfl -- hailer/hailerref11.May
theorem en14 : ∀ args w, (callFunc 14 args).run Try.prog w = .ok (.enter 14 args) w := enters Try.func14 (by kernel_rfl) rfl -- hailer/hailerref36.Ahead
theorem en15 : ∀ args w, (callFunc 15 args).run Try.prog w = .ok (.enter 15 args) w := enters Try.func15 (by kernel_rfl) rfl -- (*hailer/merge.Book).Digest
theorem en16 : ∀ args w, (callFunc 16 args).run Try.prog w = .ok (.enter 16 args) w := enters Try.func16 (by kernel_rfl) rfl -- slices.Equal[[]hailer/api.Record,hailer/api.Record]
theorem en17 : ∀ args w, (callFunc 17 args).run Try.prog w = .ok (.enter 17 args) w := enters Try.func17 (by kernel_rfl) rfl -- slices.Collect[hailer/api.Record]
theorem en18 : ∀ args w, (callFunc 18 args).run Try.prog w = .ok (.enter 18 args) w := enters Try.func18 (by kernel_rfl) rfl -- (*hailer/merge.Book).All
theorem en19 : ∀ args w, (callFunc 19 args).run Try.prog w = .ok (.enter 19 args) w := enters Try.func19 (by kernel_rfl) rfl -- (*hailer/merge.Book).Len
theorem en20 : ∀ args w, (callFunc 20 args).run Try.prog w = .ok (.enter 20 args) w := enters Try.func20 (by kernel_rfl) rfl -- hailer/hailerref36.Digest
theorem en21 : ∀ args w, (callFunc 21 args).run Try.prog w = .ok (.enter 21 args) w := enters Try.func21 (by kernel_rfl) rfl -- (*hailer/merge.Book).Digests
theorem en22 : ∀ args w, (callFunc 22 args).run Try.prog w = .ok (.enter 22 args) w := enters Try.func22 (by kernel_rfl) rfl -- hailer/hailerref36.Bucket
theorem en23 : ∀ args w, (callFunc 23 args).run Try.prog w = .ok (.enter 23 args) w := enters Try.func23 (by kernel_rfl) rfl -- hailer/hailerlaw36.of
theorem en24 : ∀ args w, (callFunc 24 args).run Try.prog w = .ok (.enter 24 args) w := enters Try.func24 (by kernel_rfl) rfl -- hailer/merge.View
theorem en25 : ∀ args w, (callFunc 25 args).run Try.prog w = .ok (.enter 25 args) w := enters Try.func25 (by kernel_rfl) rfl -- hailer/hailerref36.View
theorem en26 : ∀ args w, (callFunc 26 args).run Try.prog w = .ok (.enter 26 args) w := enters Try.func26 (by kernel_rfl) rfl -- slices.Concat[[]hailer/api.Record,hailer/api.Record]
theorem en27 : ∀ args w, (callFunc 27 args).run Try.prog w = .ok (.enter 27 args) w := enters Try.func27 (by kernel_rfl) rfl -- hailer/hailerlaw36.turned
theorem en28 : ∀ args w, (callFunc 28 args).run Try.prog w = .ok (.enter 28 args) w := enters Try.func28 (by kernel_rfl) rfl -- (*hailer/merge.Book).Join
theorem en29 : ∀ args w, (callFunc 29 args).run Try.prog w = .ok (.enter 29 args) w := enters Try.func29 (by kernel_rfl) rfl -- slices.Values[[]hailer/api.Record,hailer/api.Record]
theorem en30 : ∀ args w, (callFunc 30 args).run Try.prog w = .ok (.enter 30 args) w := enters Try.func30 (by kernel_rfl) rfl -- (*hailer/merge.Book).Offer
theorem en31 : ∀ args w, (callFunc 31 args).run Try.prog w = .ok (.enter 31 args) w := enters Try.func31 (by kernel_rfl) rfl -- (*hailer/merge.Book).Accept
theorem en32 : ∀ args w, (callFunc 32 args).run Try.prog w = .ok (.enter 32 args) w := enters Try.func32 (by kernel_rfl) rfl -- hailer/rec.May
theorem en33 : ∀ args w, (callFunc 33 args).run Try.prog w = .ok (.enter 33 args) w := enters Try.func33 (by kernel_rfl) rfl -- (*hailer/merge.Book).place
theorem en34 : ∀ args w, (callFunc 34 args).run Try.prog w = .ok (.enter 34 args) w := enters Try.func34 (by kernel_rfl) rfl -- slices.Delete[[]hailer/api.Record,hailer/api.Record]
theorem en35 : ∀ args w, (callFunc 35 args).run Try.prog w = .ok (.enter 35 args) w := enters Try.func35 (by kernel_rfl) rfl -- slices.Clone[[]hailer/api.Record,hailer/api.Record]
theorem en36 : ∀ args w, (callFunc 36 args).run Try.prog w = .ok (.enter 36 args) w := enters Try.func36 (by kernel_rfl) rfl -- hailer/merge.ordered[hailer/api.Record]
theorem en37 : ∀ args w, (callFunc 37 args).run Try.prog w = .ok (.enter 37 args) w := enters Try.func37 (by kernel_rfl) rfl -- hailer/merge.order
theorem en38 : ∀ args w, (callFunc 38 args).run Try.prog w = .ok (.enter 38 args) w := enters Try.func38 (by kernel_rfl) rfl -- hailer/hailerref36.Put
theorem en39 : ∀ args w, (callFunc 39 args).run Try.prog w = .ok (.enter 39 args) w := enters Try.func39 (by kernel_rfl) rfl -- hailer/merge.ranks
theorem en40 : ∀ args w, (callFunc 40 args).run Try.prog w = .ok (.enter 40 args) w := enters Try.func40 (by kernel_rfl) rfl -- hailer/merge.Better$1
theorem en41 : ∀ args w, (callFunc 41 args).run Try.prog w = .ok (.enter 41 args) w := enters Try.func41 (by kernel_rfl) rfl -- slices.Index[[]uint8,uint8]
theorem en42 : ∀ args w, (callFunc 42 args).run Try.prog w = .ok (.enter 42 args) w := enters Try.func42 (by kernel_rfl) rfl -- cmp.Or[int]
theorem en43 : ∀ args w, (callFunc 43 args).run Try.prog w = .ok (.enter 43 args) w := enters Try.func43 (by kernel_rfl) rfl -- cmp.Compare[int]
theorem en44 : ∀ args w, (callFunc 44 args).run Try.prog w = .ok (.enter 44 args) w := enters Try.func44 (by kernel_rfl) rfl -- cmp.Compare[uint64]
theorem en45 : ∀ args w, (callFunc 45 args).run Try.prog w = .ok (.enter 45 args) w := enters Try.func45 (by kernel_rfl) rfl -- bytes.Compare
theorem en46 : ∀ args w, (callFunc 46 args).run Try.prog w = .ok (.enter 46 args) w := enters Try.func46 (by kernel_rfl) rfl -- hailer/merge.put
theorem en47 : ∀ args w, (callFunc 47 args).run Try.prog w = .ok (.enter 47 args) w := enters Try.func47 (by kernel_rfl) rfl -- hailer/hailerref36.rank
theorem en48 : ∀ args w, (callFunc 48 args).run Try.prog w = .ok (.enter 48 args) w := enters Try.func48 (by kernel_rfl) rfl -- hailer/hailerref11.Bytes
theorem en49 : ∀ args w, (callFunc 49 args).run Try.prog w = .ok (.enter 49 args) w := enters Try.func49 (by kernel_rfl) rfl -- hailer/merge.digest
theorem en50 : ∀ args w, (callFunc 50 args).run Try.prog w = .ok (.enter 50 args) w := enters Try.func50 (by kernel_rfl) rfl -- slices.AppendSeq[[]hailer/api.Record,hailer/api.Record]
theorem en51 : ∀ args w, (callFunc 51 args).run Try.prog w = .ok (.enter 51 args) w := enters Try.func51 (by kernel_rfl) rfl -- hailer/hailerref01.Sum
theorem en52 : ∀ args w, (callFunc 52 args).run Try.prog w = .ok (.enter 52 args) w := enters Try.func52 (by kernel_rfl) rfl -- (*hailer/merge.Book).bucket
theorem en53 : ∀ args w, (callFunc 53 args).run Try.prog w = .ok (.enter 53 args) w := enters Try.func53 (by kernel_rfl) rfl -- slices.Grow[[]hailer/api.Record,hailer/api.Record]
theorem en54 : ∀ args w, (callFunc 54 args).run Try.prog w = .ok (.enter 54 args) w := enters Try.func54 (by kernel_rfl) rfl -- slices.Values[[]hailer/api.Record,hailer/api.Record]$1
theorem en55 : ∀ args w, (callFunc 55 args).run Try.prog w = .ok (.enter 55 args) w := enters Try.func55 (by kernel_rfl) rfl -- hailer/rec.All
theorem en56 : ∀ args w, (callFunc 56 args).run Try.prog w = .ok (.enter 56 args) w := enters Try.func56 (by kernel_rfl) rfl -- slices.IndexFunc[[]hailer/api.Record,hailer/api.Record]
theorem en57 : ∀ args w, (callFunc 57 args).run Try.prog w = .ok (.enter 57 args) w := enters Try.func57 (by kernel_rfl) rfl -- (*hailer/merge.Book).place$1
theorem en58 : ∀ args w, (callFunc 58 args).run Try.prog w = .ok (.enter 58 args) w := enters Try.func58 (by kernel_rfl) rfl -- slices.BinarySearchFunc[[]hailer/api.Record,hailer/api.Record,hailer/api.Record]
theorem en59 : ∀ args w, (callFunc 59 args).run Try.prog w = .ok (.enter 59 args) w := enters Try.func59 (by kernel_rfl) rfl -- slices.Insert[[]hailer/api.Record,hailer/api.Record]
theorem en60 : ∀ args w, (callFunc 60 args).run Try.prog w = .ok (.enter 60 args) w := enters Try.func60 (by kernel_rfl) rfl -- hailer/hailerref36.less
theorem en61 : ∀ args w, (callFunc 61 args).run Try.prog w = .ok (.enter 61 args) w := enters Try.func61 (by kernel_rfl) rfl -- cmp.isNaN[int]
theorem en62 : ∀ args w, (callFunc 62 args).run Try.prog w = .ok (.enter 62 args) w := enters Try.func62 (by kernel_rfl) rfl -- cmp.isNaN[uint64]
theorem en64 : ∀ args w, (callFunc 64 args).run Try.prog w = .ok (.enter 64 args) w := enters Try.func64 (by kernel_rfl) rfl -- hailer/rec.Put
theorem en65 : ∀ args w, (callFunc 65 args).run Try.prog w = .ok (.enter 65 args) w := enters Try.func65 (by kernel_rfl) rfl -- hailer/hailerref09.Id
theorem en66 : ∀ args w, (callFunc 66 args).run Try.prog w = .ok (.enter 66 args) w := enters Try.func66 (by kernel_rfl) rfl -- hailer/hailerref09.Number
theorem en67 : ∀ args w, (callFunc 67 args).run Try.prog w = .ok (.enter 67 args) w := enters Try.func67 (by kernel_rfl) rfl -- hailer/sha.Sum256
theorem en68 : ∀ args w, (callFunc 68 args).run Try.prog w = .ok (.enter 68 args) w := enters Try.func68 (by kernel_rfl) rfl -- hailer/hailerref01.First
theorem en69 : ∀ args w, (callFunc 69 args).run Try.prog w = .ok (.enter 69 args) w := enters Try.func69 (by kernel_rfl) rfl -- hailer/hailerref01.Constants
theorem en70 : ∀ args w, (callFunc 70 args).run Try.prog w = .ok (.enter 70 args) w := enters Try.func70 (by kernel_rfl) rfl -- hailer/hailerref01.power
theorem en71 : ∀ args w, (callFunc 71 args).run Try.prog w = .ok (.enter 71 args) w := enters Try.func71 (by kernel_rfl) rfl -- hailer/hailerref01.padded
theorem en72 : ∀ args w, (callFunc 72 args).run Try.prog w = .ok (.enter 72 args) w := enters Try.func72 (by kernel_rfl) rfl -- hailer/hailerref01.cut
theorem en73 : ∀ args w, (callFunc 73 args).run Try.prog w = .ok (.enter 73 args) w := enters Try.func73 (by kernel_rfl) rfl -- hailer/hailerref01.four
theorem en74 : ∀ args w, (callFunc 74 args).run Try.prog w = .ok (.enter 74 args) w := enters Try.func74 (by kernel_rfl) rfl -- hailer/hailerref01.round
theorem en75 : ∀ args w, (callFunc 75 args).run Try.prog w = .ok (.enter 75 args) w := enters Try.func75 (by kernel_rfl) rfl -- (*hailer/merge.Book).bucket$1
theorem en76 : ∀ args w, (callFunc 76 args).run Try.prog w = .ok (.enter 76 args) w := enters Try.func76 (by kernel_rfl) rfl -- hailer/rec.All$1
theorem en77 : ∀ args w, (callFunc 77 args).run Try.prog w = .ok (.enter 77 args) w := enters Try.func77 (by kernel_rfl) rfl -- hailer/rec.Take
theorem en79 : ∀ args w, (callFunc 79 args).run Try.prog w = .ok (.enter 79 args) w := enters Try.func79 (by kernel_rfl) rfl -- slices.rotateRight[hailer/api.Record]
theorem en80 : ∀ args w, (callFunc 80 args).run Try.prog w = .ok (.enter 80 args) w := enters Try.func80 (by kernel_rfl) rfl -- hailer/wire.NewOut
theorem en81 : ∀ args w, (callFunc 81 args).run Try.prog w = .ok (.enter 81 args) w := enters Try.func81 (by kernel_rfl) rfl -- (*hailer/wire.Out).Fixed
theorem en82 : ∀ args w, (callFunc 82 args).run Try.prog w = .ok (.enter 82 args) w := enters Try.func82 (by kernel_rfl) rfl -- (*hailer/wire.Out).U8
theorem en83 : ∀ args w, (callFunc 83 args).run Try.prog w = .ok (.enter 83 args) w := enters Try.func83 (by kernel_rfl) rfl -- (*hailer/wire.Out).Flag
theorem en84 : ∀ args w, (callFunc 84 args).run Try.prog w = .ok (.enter 84 args) w := enters Try.func84 (by kernel_rfl) rfl -- (*hailer/wire.Out).U64
theorem en85 : ∀ args w, (callFunc 85 args).run Try.prog w = .ok (.enter 85 args) w := enters Try.func85 (by kernel_rfl) rfl -- (*hailer/wire.Out).Bytes
theorem en86 : ∀ args w, (callFunc 86 args).run Try.prog w = .ok (.enter 86 args) w := enters Try.func86 (by kernel_rfl) rfl -- hailer/sha.narrow
theorem en87 : ∀ args w, (callFunc 87 args).run Try.prog w = .ok (.enter 87 args) w := enters Try.func87 (by kernel_rfl) rfl -- (*hailer/sha.machine[uint32]).sum
theorem en88 : ∀ args w, (callFunc 88 args).run Try.prog w = .ok (.enter 88 args) w := enters Try.func88 (by kernel_rfl) rfl -- hailer/hailerref01.mix
theorem en89 : ∀ args w, (callFunc 89 args).run Try.prog w = .ok (.enter 89 args) w := enters Try.func89 (by kernel_rfl) rfl -- hailer/wire.NewIn
theorem en90 : ∀ args w, (callFunc 90 args).run Try.prog w = .ok (.enter 90 args) w := enters Try.func90 (by kernel_rfl) rfl -- (*hailer/wire.In).Fixed
theorem en91 : ∀ args w, (callFunc 91 args).run Try.prog w = .ok (.enter 91 args) w := enters Try.func91 (by kernel_rfl) rfl -- (*hailer/wire.In).U8
theorem en92 : ∀ args w, (callFunc 92 args).run Try.prog w = .ok (.enter 92 args) w := enters Try.func92 (by kernel_rfl) rfl -- (*hailer/wire.In).Flag
theorem en93 : ∀ args w, (callFunc 93 args).run Try.prog w = .ok (.enter 93 args) w := enters Try.func93 (by kernel_rfl) rfl -- (*hailer/wire.In).U64
theorem en94 : ∀ args w, (callFunc 94 args).run Try.prog w = .ok (.enter 94 args) w := enters Try.func94 (by kernel_rfl) rfl -- (*hailer/wire.In).End
theorem en95 : ∀ args w, (callFunc 95 args).run Try.prog w = .ok (.enter 95 args) w := enters Try.func95 (by kernel_rfl) rfl -- slices.rotateLeft[hailer/api.Record]
theorem en96 : ∀ args w, (callFunc 96 args).run Try.prog w = .ok (.enter 96 args) w := enters Try.func96 (by kernel_rfl) rfl -- (*hailer/wire.Out).put
theorem en97 : ∀ args w, (callFunc 97 args).run Try.prog w = .ok (.enter 97 args) w := enters Try.func97 (by kernel_rfl) rfl -- hailer/wire.number[uint64]
theorem en98 : ∀ args w, (callFunc 98 args).run Try.prog w = .ok (.enter 98 args) w := enters Try.func98 (by kernel_rfl) rfl -- hailer/sha.upper
theorem en99 : ∀ args w, (callFunc 99 args).run Try.prog w = .ok (.enter 99 args) w := enters Try.func99 (by kernel_rfl) rfl -- hailer/sha.first
theorem en100 : ∀ args w, (callFunc 100 args).run Try.prog w = .ok (.enter 100 args) w := enters Try.func100 (by kernel_rfl) rfl -- hailer/sha.constants
theorem en101 : ∀ args w, (callFunc 101 args).run Try.prog w = .ok (.enter 101 args) w := enters Try.func101 (by kernel_rfl) rfl -- (*hailer/sha.machine[uint32]).block
theorem en102 : ∀ args w, (callFunc 102 args).run Try.prog w = .ok (.enter 102 args) w := enters Try.func102 (by kernel_rfl) rfl -- hailer/hailerref01.turn
theorem en103 : ∀ args w, (callFunc 103 args).run Try.prog w = .ok (.enter 103 args) w := enters Try.func103 (by kernel_rfl) rfl -- (*hailer/wire.In).take
theorem en104 : ∀ args w, (callFunc 104 args).run Try.prog w = .ok (.enter 104 args) w := enters Try.func104 (by kernel_rfl) rfl -- (*hailer/wire.In).next
theorem en105 : ∀ args w, (callFunc 105 args).run Try.prog w = .ok (.enter 105 args) w := enters Try.func105 (by kernel_rfl) rfl -- slices.Reverse[[]hailer/api.Record,hailer/api.Record]
theorem en106 : ∀ args w, (callFunc 106 args).run Try.prog w = .ok (.enter 106 args) w := enters Try.func106 (by kernel_rfl) rfl -- (*hailer/sha.machine[uint32]).small
theorem en107 : ∀ args w, (callFunc 107 args).run Try.prog w = .ok (.enter 107 args) w := enters Try.func107 (by kernel_rfl) rfl -- (*hailer/sha.machine[uint32]).big
theorem en108 : ∀ args w, (callFunc 108 args).run Try.prog w = .ok (.enter 108 args) w := enters Try.func108 (by kernel_rfl) rfl -- (*hailer/sha.machine[uint32]).turn
end Go.Proofs.Ytmcdbjbkkejbbaa
