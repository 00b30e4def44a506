/- Facts on the types and functions of the program, each closed. -/
import Derived.Test.YtfdnnlcfolgegaaProg
import Derived.Test.YtfdnnlcfolgegaaLibW
namespace Go.Proofs.Ytfdnnlcfolgegaa
open Go Go.RowKit
theorem mixed : Try.prog.follows .mixedOrders = true := by kernel_rfl
theorem on1 : isOne Try.prog 1 = true := by kernel_rfl
theorem sz1 : (Try.prog.info? 1).map (·.size) = some 1 := by kernel_rfl
theorem zr1 : (Try.prog.info? 1).map (·.zero) = some (some (.nilFunc : Value)) := by kernel_rfl
theorem zs1 : (Try.prog.info? 1).map (fun i => (i.zero, i.size)) = some (some (.nilFunc : Value), 1) := by kernel_rfl
theorem un2 : Try.prog.underlying 2 = some (.int .i64) := Try.underlying2
theorem on2 : isOne Try.prog 2 = true := by kernel_rfl
theorem sz2 : (Try.prog.info? 2).map (·.size) = some 1 := by kernel_rfl
theorem zr2 : (Try.prog.info? 2).map (·.zero) = some (some (.int .i64 0 : Value)) := by kernel_rfl
theorem zs2 : (Try.prog.info? 2).map (fun i => (i.zero, i.size)) = some (some (.int .i64 0 : Value), 1) := by kernel_rfl
theorem un3 : Try.prog.underlying 3 = some (.int .i64) := Try.underlying3
theorem on3 : isOne Try.prog 3 = true := by kernel_rfl
theorem sz3 : (Try.prog.info? 3).map (·.size) = some 1 := by kernel_rfl
theorem zr3 : (Try.prog.info? 3).map (·.zero) = some (some (.int .i64 0 : Value)) := by kernel_rfl
theorem zs3 : (Try.prog.info? 3).map (fun i => (i.zero, i.size)) = some (some (.int .i64 0 : Value), 1) := by kernel_rfl
theorem un4 : Try.prog.underlying 4 = some (.bool) := Try.underlying4
theorem on4 : isOne Try.prog 4 = true := by kernel_rfl
theorem sz4 : (Try.prog.info? 4).map (·.size) = some 1 := by kernel_rfl
theorem zr4 : (Try.prog.info? 4).map (·.zero) = some (some (.bool false : Value)) := by kernel_rfl
theorem zs4 : (Try.prog.info? 4).map (fun i => (i.zero, i.size)) = some (some (.bool false : Value), 1) := by kernel_rfl
theorem un5 : Try.prog.underlying 5 = some (.int .u8) := Try.underlying5
theorem on5 : isOne Try.prog 5 = true := by kernel_rfl
theorem sz5 : (Try.prog.info? 5).map (·.size) = some 1 := by kernel_rfl
theorem zr5 : (Try.prog.info? 5).map (·.zero) = some (some (.int .u8 0 : Value)) := by kernel_rfl
theorem zs5 : (Try.prog.info? 5).map (fun i => (i.zero, i.size)) = some (some (.int .u8 0 : Value), 1) := by kernel_rfl
theorem un6 : Try.prog.underlying 6 = some (.int .u8) := Try.underlying6
theorem on6 : isOne Try.prog 6 = true := by kernel_rfl
theorem sz6 : (Try.prog.info? 6).map (·.size) = some 1 := by kernel_rfl
theorem zr6 : (Try.prog.info? 6).map (·.zero) = some (some (.int .u8 0 : Value)) := by kernel_rfl
theorem zs6 : (Try.prog.info? 6).map (fun i => (i.zero, i.size)) = some (some (.int .u8 0 : Value), 1) := by kernel_rfl
theorem ag7 : aggB Try.prog 7 4 = true := by kernel_rfl
theorem sz7 : (Try.prog.info? 7).map (·.size) = some 4 := by kernel_rfl
theorem fo7_0 : fieldOff Try.prog 7 0 = some 0 := by kernel_rfl
theorem fo7_1 : fieldOff Try.prog 7 1 = some 1 := by kernel_rfl
theorem fo7_2 : fieldOff Try.prog 7 2 = some 2 := by kernel_rfl
theorem fo7_3 : fieldOff Try.prog 7 3 = some 3 := by kernel_rfl
theorem zr7 : (Try.prog.info? 7).map (·.zero) = some (some (.agg #[.int .i64 0, .int .i64 0, .bool false, .int .u8 0] : Value)) := by kernel_rfl
theorem zs7 : (Try.prog.info? 7).map (fun i => (i.zero, i.size)) = some (some (.agg #[.int .i64 0, .int .i64 0, .bool false, .int .u8 0] : Value), 4) := by kernel_rfl
theorem ag8 : aggB Try.prog 8 4 = true := by kernel_rfl
theorem sz8 : (Try.prog.info? 8).map (·.size) = some 4 := by kernel_rfl
theorem fo8_0 : fieldOff Try.prog 8 0 = some 0 := by kernel_rfl
theorem fo8_1 : fieldOff Try.prog 8 1 = some 1 := by kernel_rfl
theorem fo8_2 : fieldOff Try.prog 8 2 = some 2 := by kernel_rfl
theorem fo8_3 : fieldOff Try.prog 8 3 = some 3 := by kernel_rfl
theorem zr8 : (Try.prog.info? 8).map (·.zero) = some (some (.agg #[.int .i64 0, .int .i64 0, .bool false, .int .u8 0] : Value)) := by kernel_rfl
theorem zs8 : (Try.prog.info? 8).map (fun i => (i.zero, i.size)) = some (some (.agg #[.int .i64 0, .int .i64 0, .bool false, .int .u8 0] : Value), 4) := by kernel_rfl
theorem un9 : Try.prog.underlying 9 = some (.string) := Try.underlying9
theorem on9 : isOne Try.prog 9 = true := by kernel_rfl
theorem sz9 : (Try.prog.info? 9).map (·.size) = some 1 := by kernel_rfl
theorem zr9 : (Try.prog.info? 9).map (·.zero) = some (some (.string ByteArray.empty : Value)) := by kernel_rfl
theorem zs9 : (Try.prog.info? 9).map (fun i => (i.zero, i.size)) = some (some (.string ByteArray.empty : Value), 1) := by kernel_rfl
theorem un10 : Try.prog.underlying 10 = some (.string) := Try.underlying10
theorem on10 : isOne Try.prog 10 = true := by kernel_rfl
theorem sz10 : (Try.prog.info? 10).map (·.size) = some 1 := by kernel_rfl
theorem zr10 : (Try.prog.info? 10).map (·.zero) = some (some (.string ByteArray.empty : Value)) := by kernel_rfl
theorem zs10 : (Try.prog.info? 10).map (fun i => (i.zero, i.size)) = some (some (.string ByteArray.empty : Value), 1) := by kernel_rfl
theorem un11 : Try.prog.underlying 11 = some (.string) := Try.underlying11
theorem on11 : isOne Try.prog 11 = true := by kernel_rfl
theorem sz11 : (Try.prog.info? 11).map (·.size) = some 1 := by kernel_rfl
theorem zr11 : (Try.prog.info? 11).map (·.zero) = some (some (.string ByteArray.empty : Value)) := by kernel_rfl
theorem zs11 : (Try.prog.info? 11).map (fun i => (i.zero, i.size)) = some (some (.string ByteArray.empty : Value), 1) := by kernel_rfl
theorem un12 : Try.prog.underlying 12 = some (.int .u64) := Try.underlying12
theorem on12 : isOne Try.prog 12 = true := by kernel_rfl
theorem sz12 : (Try.prog.info? 12).map (·.size) = some 1 := by kernel_rfl
theorem zr12 : (Try.prog.info? 12).map (·.zero) = some (some (.int .u64 0 : Value)) := by kernel_rfl
theorem zs12 : (Try.prog.info? 12).map (fun i => (i.zero, i.size)) = some (some (.int .u64 0 : Value), 1) := by kernel_rfl
theorem ag13 : aggB Try.prog 13 2 = true := by kernel_rfl
theorem sz13 : (Try.prog.info? 13).map (·.size) = some 2 := by kernel_rfl
theorem fo13_0 : fieldOff Try.prog 13 0 = some 0 := by kernel_rfl
theorem fo13_1 : fieldOff Try.prog 13 1 = some 1 := by kernel_rfl
theorem zr13 : (Try.prog.info? 13).map (·.zero) = some (some (.agg #[.string ByteArray.empty, .int .u64 0] : Value)) := by kernel_rfl
theorem zs13 : (Try.prog.info? 13).map (fun i => (i.zero, i.size)) = some (some (.agg #[.string ByteArray.empty, .int .u64 0] : Value), 2) := by kernel_rfl
theorem ag14 : aggB Try.prog 14 2 = true := by kernel_rfl
theorem sz14 : (Try.prog.info? 14).map (·.size) = some 2 := by kernel_rfl
theorem fo14_0 : fieldOff Try.prog 14 0 = some 0 := by kernel_rfl
theorem fo14_1 : fieldOff Try.prog 14 1 = some 1 := by kernel_rfl
theorem zr14 : (Try.prog.info? 14).map (·.zero) = some (some (.agg #[.string ByteArray.empty, .int .u64 0] : Value)) := by kernel_rfl
theorem zs14 : (Try.prog.info? 14).map (fun i => (i.zero, i.size)) = some (some (.agg #[.string ByteArray.empty, .int .u64 0] : Value), 2) := by kernel_rfl
theorem un15 : Try.prog.underlying 15 = some (.pointer 131) := Try.underlying15
theorem on15 : isOne Try.prog 15 = true := by kernel_rfl
theorem sz15 : (Try.prog.info? 15).map (·.size) = some 1 := by kernel_rfl
theorem zr15 : (Try.prog.info? 15).map (·.zero) = some (some (.pointer none : Value)) := by kernel_rfl
theorem zs15 : (Try.prog.info? 15).map (fun i => (i.zero, i.size)) = some (some (.pointer none : Value), 1) := by kernel_rfl
theorem un16 : Try.prog.underlying 16 = some (.pointer 134) := Try.underlying16
theorem on16 : isOne Try.prog 16 = true := by kernel_rfl
theorem sz16 : (Try.prog.info? 16).map (·.size) = some 1 := by kernel_rfl
theorem zr16 : (Try.prog.info? 16).map (·.zero) = some (some (.pointer none : Value)) := by kernel_rfl
theorem zs16 : (Try.prog.info? 16).map (fun i => (i.zero, i.size)) = some (some (.pointer none : Value), 1) := by kernel_rfl
theorem un17 : Try.prog.underlying 17 = some (.pointer 143) := Try.underlying17
theorem on17 : isOne Try.prog 17 = true := by kernel_rfl
theorem sz17 : (Try.prog.info? 17).map (·.size) = some 1 := by kernel_rfl
theorem zr17 : (Try.prog.info? 17).map (·.zero) = some (some (.pointer none : Value)) := by kernel_rfl
theorem zs17 : (Try.prog.info? 17).map (fun i => (i.zero, i.size)) = some (some (.pointer none : Value), 1) := by kernel_rfl
theorem ag18 : aggB Try.prog 18 1 = true := by kernel_rfl
theorem sz18 : (Try.prog.info? 18).map (·.size) = some 1 := by kernel_rfl
theorem fo18_0 : fieldOff Try.prog 18 0 = some 0 := by kernel_rfl
theorem zr18 : (Try.prog.info? 18).map (·.zero) = some (some (.agg #[.pointer none] : Value)) := by kernel_rfl
theorem zs18 : (Try.prog.info? 18).map (fun i => (i.zero, i.size)) = some (some (.agg #[.pointer none] : Value), 1) := by kernel_rfl
theorem ag19 : aggB Try.prog 19 1 = true := by kernel_rfl
theorem sz19 : (Try.prog.info? 19).map (·.size) = some 1 := by kernel_rfl
theorem fo19_0 : fieldOff Try.prog 19 0 = some 0 := by kernel_rfl
theorem zr19 : (Try.prog.info? 19).map (·.zero) = some (some (.agg #[.pointer none] : Value)) := by kernel_rfl
theorem zs19 : (Try.prog.info? 19).map (fun i => (i.zero, i.size)) = some (some (.agg #[.pointer none] : Value), 1) := by kernel_rfl
theorem un21 : Try.prog.underlying 21 = some (.int .i32) := Try.underlying21
theorem on21 : isOne Try.prog 21 = true := by kernel_rfl
theorem sz21 : (Try.prog.info? 21).map (·.size) = some 1 := by kernel_rfl
theorem zr21 : (Try.prog.info? 21).map (·.zero) = some (some (.int .i32 0 : Value)) := by kernel_rfl
theorem zs21 : (Try.prog.info? 21).map (fun i => (i.zero, i.size)) = some (some (.int .i32 0 : Value), 1) := by kernel_rfl
theorem un22 : Try.prog.underlying 22 = some (.array 16 5) := Try.underlying22
theorem ag22 : aggB Try.prog 22 16 = true := by kernel_rfl
theorem sz22 : (Try.prog.info? 22).map (·.size) = some 16 := by kernel_rfl
theorem zr22 : (Try.prog.info? 22).map (·.zero) = some (some (.agg #[.int .u8 0, .int .u8 0, .int .u8 0, .int .u8 0, .int .u8 0, .int .u8 0, .int .u8 0, .int .u8 0, .int .u8 0, .int .u8 0, .int .u8 0, .int .u8 0, .int .u8 0, .int .u8 0, .int .u8 0, .int .u8 0] : Value)) := by kernel_rfl
theorem zs22 : (Try.prog.info? 22).map (fun i => (i.zero, i.size)) = some (some (.agg #[.int .u8 0, .int .u8 0, .int .u8 0, .int .u8 0, .int .u8 0, .int .u8 0, .int .u8 0, .int .u8 0, .int .u8 0, .int .u8 0, .int .u8 0, .int .u8 0, .int .u8 0, .int .u8 0, .int .u8 0, .int .u8 0] : Value), 16) := by kernel_rfl
theorem un23 : Try.prog.underlying 23 = some (.array 16 5) := Try.underlying23
theorem ag23 : aggB Try.prog 23 16 = true := by kernel_rfl
theorem sz23 : (Try.prog.info? 23).map (·.size) = some 16 := by kernel_rfl
theorem zr23 : (Try.prog.info? 23).map (·.zero) = some (some (.agg #[.int .u8 0, .int .u8 0, .int .u8 0, .int .u8 0, .int .u8 0, .int .u8 0, .int .u8 0, .int .u8 0, .int .u8 0, .int .u8 0, .int .u8 0, .int .u8 0, .int .u8 0, .int .u8 0, .int .u8 0, .int .u8 0] : Value)) := by kernel_rfl
theorem zs23 : (Try.prog.info? 23).map (fun i => (i.zero, i.size)) = some (some (.agg #[.int .u8 0, .int .u8 0, .int .u8 0, .int .u8 0, .int .u8 0, .int .u8 0, .int .u8 0, .int .u8 0, .int .u8 0, .int .u8 0, .int .u8 0, .int .u8 0, .int .u8 0, .int .u8 0, .int .u8 0, .int .u8 0] : Value), 16) := by kernel_rfl
theorem un24 : Try.prog.underlying 24 = some (.int .u64) := Try.underlying24
theorem on24 : isOne Try.prog 24 = true := by kernel_rfl
theorem sz24 : (Try.prog.info? 24).map (·.size) = some 1 := by kernel_rfl
theorem zr24 : (Try.prog.info? 24).map (·.zero) = some (some (.int .u64 0 : Value)) := by kernel_rfl
theorem zs24 : (Try.prog.info? 24).map (fun i => (i.zero, i.size)) = some (some (.int .u64 0 : Value), 1) := by kernel_rfl
theorem un25 : Try.prog.underlying 25 = some (.slice 31) := Try.underlying25
theorem on25 : isOne Try.prog 25 = true := by kernel_rfl
theorem sz25 : (Try.prog.info? 25).map (·.size) = some 1 := by kernel_rfl
theorem zr25 : (Try.prog.info? 25).map (·.zero) = some (some (.slice none 0 0 : Value)) := by kernel_rfl
theorem zs25 : (Try.prog.info? 25).map (fun i => (i.zero, i.size)) = some (some (.slice none 0 0 : Value), 1) := by kernel_rfl
theorem ag26 : aggB Try.prog 26 18 = true := by kernel_rfl
theorem sz26 : (Try.prog.info? 26).map (·.size) = some 18 := by kernel_rfl
theorem fo26_0 : fieldOff Try.prog 26 0 = some 0 := by kernel_rfl
theorem fo26_1 : fieldOff Try.prog 26 1 = some 16 := by kernel_rfl
theorem fo26_2 : fieldOff Try.prog 26 2 = some 17 := by kernel_rfl
theorem zr26 : (Try.prog.info? 26).map (·.zero) = some (some (.agg #[.int .u8 0, .int .u8 0, .int .u8 0, .int .u8 0, .int .u8 0, .int .u8 0, .int .u8 0, .int .u8 0, .int .u8 0, .int .u8 0, .int .u8 0, .int .u8 0, .int .u8 0, .int .u8 0, .int .u8 0, .int .u8 0, .int .u64 0, .slice none 0 0] : Value)) := by kernel_rfl
theorem zs26 : (Try.prog.info? 26).map (fun i => (i.zero, i.size)) = some (some (.agg #[.int .u8 0, .int .u8 0, .int .u8 0, .int .u8 0, .int .u8 0, .int .u8 0, .int .u8 0, .int .u8 0, .int .u8 0, .int .u8 0, .int .u8 0, .int .u8 0, .int .u8 0, .int .u8 0, .int .u8 0, .int .u8 0, .int .u64 0, .slice none 0 0] : Value), 18) := by kernel_rfl
theorem ag27 : aggB Try.prog 27 18 = true := by kernel_rfl
theorem sz27 : (Try.prog.info? 27).map (·.size) = some 18 := by kernel_rfl
theorem fo27_0 : fieldOff Try.prog 27 0 = some 0 := by kernel_rfl
theorem fo27_1 : fieldOff Try.prog 27 1 = some 16 := by kernel_rfl
theorem fo27_2 : fieldOff Try.prog 27 2 = some 17 := by kernel_rfl
theorem zr27 : (Try.prog.info? 27).map (·.zero) = some (some (.agg #[.int .u8 0, .int .u8 0, .int .u8 0, .int .u8 0, .int .u8 0, .int .u8 0, .int .u8 0, .int .u8 0, .int .u8 0, .int .u8 0, .int .u8 0, .int .u8 0, .int .u8 0, .int .u8 0, .int .u8 0, .int .u8 0, .int .u64 0, .slice none 0 0] : Value)) := by kernel_rfl
theorem zs27 : (Try.prog.info? 27).map (fun i => (i.zero, i.size)) = some (some (.agg #[.int .u8 0, .int .u8 0, .int .u8 0, .int .u8 0, .int .u8 0, .int .u8 0, .int .u8 0, .int .u8 0, .int .u8 0, .int .u8 0, .int .u8 0, .int .u8 0, .int .u8 0, .int .u8 0, .int .u8 0, .int .u8 0, .int .u64 0, .slice none 0 0] : Value), 18) := by kernel_rfl
theorem on28 : isOne Try.prog 28 = true := by kernel_rfl
theorem sz28 : (Try.prog.info? 28).map (·.size) = some 1 := by kernel_rfl
theorem zr28 : (Try.prog.info? 28).map (·.zero) = some (some (.nilFunc : Value)) := by kernel_rfl
theorem zs28 : (Try.prog.info? 28).map (fun i => (i.zero, i.size)) = some (some (.nilFunc : Value), 1) := by kernel_rfl
theorem on29 : isOne Try.prog 29 = true := by kernel_rfl
theorem sz29 : (Try.prog.info? 29).map (·.size) = some 1 := by kernel_rfl
theorem zr29 : (Try.prog.info? 29).map (·.zero) = some (some (.nilFunc : Value)) := by kernel_rfl
theorem zs29 : (Try.prog.info? 29).map (fun i => (i.zero, i.size)) = some (some (.nilFunc : Value), 1) := by kernel_rfl
theorem ag30 : aggB Try.prog 30 2 = true := by kernel_rfl
theorem sz30 : (Try.prog.info? 30).map (·.size) = some 2 := by kernel_rfl
theorem fo30_0 : fieldOff Try.prog 30 0 = some 0 := by kernel_rfl
theorem fo30_1 : fieldOff Try.prog 30 1 = some 1 := by kernel_rfl
theorem zr30 : (Try.prog.info? 30).map (·.zero) = some (some (.agg #[.int .u8 0, .int .u8 0] : Value)) := by kernel_rfl
theorem zs30 : (Try.prog.info? 30).map (fun i => (i.zero, i.size)) = some (some (.agg #[.int .u8 0, .int .u8 0] : Value), 2) := by kernel_rfl
theorem ag31 : aggB Try.prog 31 2 = true := by kernel_rfl
theorem sz31 : (Try.prog.info? 31).map (·.size) = some 2 := by kernel_rfl
theorem fo31_0 : fieldOff Try.prog 31 0 = some 0 := by kernel_rfl
theorem fo31_1 : fieldOff Try.prog 31 1 = some 1 := by kernel_rfl
theorem zr31 : (Try.prog.info? 31).map (·.zero) = some (some (.agg #[.int .u8 0, .int .u8 0] : Value)) := by kernel_rfl
theorem zs31 : (Try.prog.info? 31).map (fun i => (i.zero, i.size)) = some (some (.agg #[.int .u8 0, .int .u8 0] : Value), 2) := by kernel_rfl
theorem un32 : Try.prog.underlying 32 = some (.int .i64) := Try.underlying32
theorem on32 : isOne Try.prog 32 = true := by kernel_rfl
theorem sz32 : (Try.prog.info? 32).map (·.size) = some 1 := by kernel_rfl
theorem zr32 : (Try.prog.info? 32).map (·.zero) = some (some (.int .i64 0 : Value)) := by kernel_rfl
theorem zs32 : (Try.prog.info? 32).map (fun i => (i.zero, i.size)) = some (some (.int .i64 0 : Value), 1) := by kernel_rfl
theorem on34 : isOne Try.prog 34 = true := by kernel_rfl
theorem sz34 : (Try.prog.info? 34).map (·.size) = some 1 := by kernel_rfl
theorem zr34 : (Try.prog.info? 34).map (·.zero) = some (some (.nilFunc : Value)) := by kernel_rfl
theorem zs34 : (Try.prog.info? 34).map (fun i => (i.zero, i.size)) = some (some (.nilFunc : Value), 1) := by kernel_rfl
theorem on35 : isOne Try.prog 35 = true := by kernel_rfl
theorem sz35 : (Try.prog.info? 35).map (·.size) = some 1 := by kernel_rfl
theorem zr35 : (Try.prog.info? 35).map (·.zero) = some (some (.nilFunc : Value)) := by kernel_rfl
theorem zs35 : (Try.prog.info? 35).map (fun i => (i.zero, i.size)) = some (some (.nilFunc : Value), 1) := by kernel_rfl
theorem on36 : isOne Try.prog 36 = true := by kernel_rfl
theorem sz36 : (Try.prog.info? 36).map (·.size) = some 1 := by kernel_rfl
theorem zr36 : (Try.prog.info? 36).map (·.zero) = some (some (.nilFunc : Value)) := by kernel_rfl
theorem zs36 : (Try.prog.info? 36).map (fun i => (i.zero, i.size)) = some (some (.nilFunc : Value), 1) := by kernel_rfl
theorem on37 : isOne Try.prog 37 = true := by kernel_rfl
theorem sz37 : (Try.prog.info? 37).map (·.size) = some 1 := by kernel_rfl
theorem zr37 : (Try.prog.info? 37).map (·.zero) = some (some (.nilFunc : Value)) := by kernel_rfl
theorem zs37 : (Try.prog.info? 37).map (fun i => (i.zero, i.size)) = some (some (.nilFunc : Value), 1) := by kernel_rfl
theorem on38 : isOne Try.prog 38 = true := by kernel_rfl
theorem sz38 : (Try.prog.info? 38).map (·.size) = some 1 := by kernel_rfl
theorem zr38 : (Try.prog.info? 38).map (·.zero) = some (some (.nilFunc : Value)) := by kernel_rfl
theorem zs38 : (Try.prog.info? 38).map (fun i => (i.zero, i.size)) = some (some (.nilFunc : Value), 1) := by kernel_rfl
theorem un39 : Try.prog.underlying 39 = some (.slice 44) := Try.underlying39
theorem on39 : isOne Try.prog 39 = true := by kernel_rfl
theorem sz39 : (Try.prog.info? 39).map (·.size) = some 1 := by kernel_rfl
theorem zr39 : (Try.prog.info? 39).map (·.zero) = some (some (.slice none 0 0 : Value)) := by kernel_rfl
theorem zs39 : (Try.prog.info? 39).map (fun i => (i.zero, i.size)) = some (some (.slice none 0 0 : Value), 1) := by kernel_rfl
theorem on40 : isOne Try.prog 40 = true := by kernel_rfl
theorem sz40 : (Try.prog.info? 40).map (·.size) = some 1 := by kernel_rfl
theorem zr40 : (Try.prog.info? 40).map (·.zero) = some (some (.nilFunc : Value)) := by kernel_rfl
theorem zs40 : (Try.prog.info? 40).map (fun i => (i.zero, i.size)) = some (some (.nilFunc : Value), 1) := by kernel_rfl
theorem sz41 : (Try.prog.info? 41).map (·.size) = some 0 := by kernel_rfl
theorem zr41 : (Try.prog.info? 41).map (·.zero) = some (some (.agg #[] : Value)) := by kernel_rfl
theorem zs41 : (Try.prog.info? 41).map (fun i => (i.zero, i.size)) = some (some (.agg #[] : Value), 0) := by kernel_rfl
theorem un42 : Try.prog.underlying 42 = some (.map 31 41) := Try.underlying42
theorem on42 : isOne Try.prog 42 = true := by kernel_rfl
theorem sz42 : (Try.prog.info? 42).map (·.size) = some 1 := by kernel_rfl
theorem zr42 : (Try.prog.info? 42).map (·.zero) = some (some (.map none : Value)) := by kernel_rfl
theorem zs42 : (Try.prog.info? 42).map (fun i => (i.zero, i.size)) = some (some (.map none : Value), 1) := by kernel_rfl
theorem ag43 : aggB Try.prog 43 3 = true := by kernel_rfl
theorem sz43 : (Try.prog.info? 43).map (·.size) = some 3 := by kernel_rfl
theorem fo43_0 : fieldOff Try.prog 43 0 = some 0 := by kernel_rfl
theorem fo43_1 : fieldOff Try.prog 43 1 = some 2 := by kernel_rfl
theorem zr43 : (Try.prog.info? 43).map (·.zero) = some (some (.agg #[.int .u8 0, .int .u8 0, .bool false] : Value)) := by kernel_rfl
theorem zs43 : (Try.prog.info? 43).map (fun i => (i.zero, i.size)) = some (some (.agg #[.int .u8 0, .int .u8 0, .bool false] : Value), 3) := by kernel_rfl
theorem ag44 : aggB Try.prog 44 3 = true := by kernel_rfl
theorem sz44 : (Try.prog.info? 44).map (·.size) = some 3 := by kernel_rfl
theorem fo44_0 : fieldOff Try.prog 44 0 = some 0 := by kernel_rfl
theorem fo44_1 : fieldOff Try.prog 44 1 = some 2 := by kernel_rfl
theorem zr44 : (Try.prog.info? 44).map (·.zero) = some (some (.agg #[.int .u8 0, .int .u8 0, .bool false] : Value)) := by kernel_rfl
theorem zs44 : (Try.prog.info? 44).map (fun i => (i.zero, i.size)) = some (some (.agg #[.int .u8 0, .int .u8 0, .bool false] : Value), 3) := by kernel_rfl
theorem un46 : Try.prog.underlying 46 = some (.array 32 5) := Try.underlying46
theorem ag46 : aggB Try.prog 46 32 = true := by kernel_rfl
theorem sz46 : (Try.prog.info? 46).map (·.size) = some 32 := by kernel_rfl
theorem zr46 : (Try.prog.info? 46).map (·.zero) = some (some (.agg #[.int .u8 0, .int .u8 0, .int .u8 0, .int .u8 0, .int .u8 0, .int .u8 0, .int .u8 0, .int .u8 0, .int .u8 0, .int .u8 0, .int .u8 0, .int .u8 0, .int .u8 0, .int .u8 0, .int .u8 0, .int .u8 0, .int .u8 0, .int .u8 0, .int .u8 0, .int .u8 0, .int .u8 0, .int .u8 0, .int .u8 0, .int .u8 0, .int .u8 0, .int .u8 0, .int .u8 0, .int .u8 0, .int .u8 0, .int .u8 0, .int .u8 0, .int .u8 0] : Value)) := by kernel_rfl
theorem zs46 : (Try.prog.info? 46).map (fun i => (i.zero, i.size)) = some (some (.agg #[.int .u8 0, .int .u8 0, .int .u8 0, .int .u8 0, .int .u8 0, .int .u8 0, .int .u8 0, .int .u8 0, .int .u8 0, .int .u8 0, .int .u8 0, .int .u8 0, .int .u8 0, .int .u8 0, .int .u8 0, .int .u8 0, .int .u8 0, .int .u8 0, .int .u8 0, .int .u8 0, .int .u8 0, .int .u8 0, .int .u8 0, .int .u8 0, .int .u8 0, .int .u8 0, .int .u8 0, .int .u8 0, .int .u8 0, .int .u8 0, .int .u8 0, .int .u8 0] : Value), 32) := by kernel_rfl
theorem on47 : isOne Try.prog 47 = true := by kernel_rfl
theorem sz47 : (Try.prog.info? 47).map (·.size) = some 1 := by kernel_rfl
theorem zr47 : (Try.prog.info? 47).map (·.zero) = some (some (.nilFunc : Value)) := by kernel_rfl
theorem zs47 : (Try.prog.info? 47).map (fun i => (i.zero, i.size)) = some (some (.nilFunc : Value), 1) := by kernel_rfl
theorem on48 : isOne Try.prog 48 = true := by kernel_rfl
theorem sz48 : (Try.prog.info? 48).map (·.size) = some 1 := by kernel_rfl
theorem zr48 : (Try.prog.info? 48).map (·.zero) = some (some (.nilFunc : Value)) := by kernel_rfl
theorem zs48 : (Try.prog.info? 48).map (fun i => (i.zero, i.size)) = some (some (.nilFunc : Value), 1) := by kernel_rfl
theorem on49 : isOne Try.prog 49 = true := by kernel_rfl
theorem sz49 : (Try.prog.info? 49).map (·.size) = some 1 := by kernel_rfl
theorem zr49 : (Try.prog.info? 49).map (·.zero) = some (some (.nilFunc : Value)) := by kernel_rfl
theorem zs49 : (Try.prog.info? 49).map (fun i => (i.zero, i.size)) = some (some (.nilFunc : Value), 1) := by kernel_rfl
theorem on51 : isOne Try.prog 51 = true := by kernel_rfl
theorem sz51 : (Try.prog.info? 51).map (·.size) = some 1 := by kernel_rfl
theorem zr51 : (Try.prog.info? 51).map (·.zero) = some (some (.nilFunc : Value)) := by kernel_rfl
theorem zs51 : (Try.prog.info? 51).map (fun i => (i.zero, i.size)) = some (some (.nilFunc : Value), 1) := by kernel_rfl
theorem on52 : isOne Try.prog 52 = true := by kernel_rfl
theorem sz52 : (Try.prog.info? 52).map (·.size) = some 1 := by kernel_rfl
theorem zr52 : (Try.prog.info? 52).map (·.zero) = some (some (.nilFunc : Value)) := by kernel_rfl
theorem zs52 : (Try.prog.info? 52).map (fun i => (i.zero, i.size)) = some (some (.nilFunc : Value), 1) := by kernel_rfl
theorem un53 : Try.prog.underlying 53 = some (.slice 5) := Try.underlying53
theorem on53 : isOne Try.prog 53 = true := by kernel_rfl
theorem sz53 : (Try.prog.info? 53).map (·.size) = some 1 := by kernel_rfl
theorem zr53 : (Try.prog.info? 53).map (·.zero) = some (some (.slice none 0 0 : Value)) := by kernel_rfl
theorem zs53 : (Try.prog.info? 53).map (fun i => (i.zero, i.size)) = some (some (.slice none 0 0 : Value), 1) := by kernel_rfl
theorem on54 : isOne Try.prog 54 = true := by kernel_rfl
theorem sz54 : (Try.prog.info? 54).map (·.size) = some 1 := by kernel_rfl
theorem zr54 : (Try.prog.info? 54).map (·.zero) = some (some (.nilFunc : Value)) := by kernel_rfl
theorem zs54 : (Try.prog.info? 54).map (fun i => (i.zero, i.size)) = some (some (.nilFunc : Value), 1) := by kernel_rfl
theorem on55 : isOne Try.prog 55 = true := by kernel_rfl
theorem sz55 : (Try.prog.info? 55).map (·.size) = some 1 := by kernel_rfl
theorem zr55 : (Try.prog.info? 55).map (·.zero) = some (some (.nilFunc : Value)) := by kernel_rfl
theorem zs55 : (Try.prog.info? 55).map (fun i => (i.zero, i.size)) = some (some (.nilFunc : Value), 1) := by kernel_rfl
theorem on56 : isOne Try.prog 56 = true := by kernel_rfl
theorem sz56 : (Try.prog.info? 56).map (·.size) = some 1 := by kernel_rfl
theorem zr56 : (Try.prog.info? 56).map (·.zero) = some (some (.nilFunc : Value)) := by kernel_rfl
theorem zs56 : (Try.prog.info? 56).map (fun i => (i.zero, i.size)) = some (some (.nilFunc : Value), 1) := by kernel_rfl
theorem on57 : isOne Try.prog 57 = true := by kernel_rfl
theorem sz57 : (Try.prog.info? 57).map (·.size) = some 1 := by kernel_rfl
theorem zr57 : (Try.prog.info? 57).map (·.zero) = some (some (.nilFunc : Value)) := by kernel_rfl
theorem zs57 : (Try.prog.info? 57).map (fun i => (i.zero, i.size)) = some (some (.nilFunc : Value), 1) := by kernel_rfl
theorem on58 : isOne Try.prog 58 = true := by kernel_rfl
theorem sz58 : (Try.prog.info? 58).map (·.size) = some 1 := by kernel_rfl
theorem zr58 : (Try.prog.info? 58).map (·.zero) = some (some (.nilFunc : Value)) := by kernel_rfl
theorem zs58 : (Try.prog.info? 58).map (fun i => (i.zero, i.size)) = some (some (.nilFunc : Value), 1) := by kernel_rfl
theorem on59 : isOne Try.prog 59 = true := by kernel_rfl
theorem sz59 : (Try.prog.info? 59).map (·.size) = some 1 := by kernel_rfl
theorem zr59 : (Try.prog.info? 59).map (·.zero) = some (some (.nilFunc : Value)) := by kernel_rfl
theorem zs59 : (Try.prog.info? 59).map (fun i => (i.zero, i.size)) = some (some (.nilFunc : Value), 1) := by kernel_rfl
theorem on60 : isOne Try.prog 60 = true := by kernel_rfl
theorem sz60 : (Try.prog.info? 60).map (·.size) = some 1 := by kernel_rfl
theorem zr60 : (Try.prog.info? 60).map (·.zero) = some (some (.nilFunc : Value)) := by kernel_rfl
theorem zs60 : (Try.prog.info? 60).map (fun i => (i.zero, i.size)) = some (some (.nilFunc : Value), 1) := by kernel_rfl
theorem on62 : isOne Try.prog 62 = true := by kernel_rfl
theorem sz62 : (Try.prog.info? 62).map (·.size) = some 1 := by kernel_rfl
theorem zr62 : (Try.prog.info? 62).map (·.zero) = some (some (.nilFunc : Value)) := by kernel_rfl
theorem zs62 : (Try.prog.info? 62).map (fun i => (i.zero, i.size)) = some (some (.nilFunc : Value), 1) := by kernel_rfl
theorem on63 : isOne Try.prog 63 = true := by kernel_rfl
theorem sz63 : (Try.prog.info? 63).map (·.size) = some 1 := by kernel_rfl
theorem zr63 : (Try.prog.info? 63).map (·.zero) = some (some (.nilFunc : Value)) := by kernel_rfl
theorem zs63 : (Try.prog.info? 63).map (fun i => (i.zero, i.size)) = some (some (.nilFunc : Value), 1) := by kernel_rfl
theorem on64 : isOne Try.prog 64 = true := by kernel_rfl
theorem sz64 : (Try.prog.info? 64).map (·.size) = some 1 := by kernel_rfl
theorem zr64 : (Try.prog.info? 64).map (·.zero) = some (some (.nilFunc : Value)) := by kernel_rfl
theorem zs64 : (Try.prog.info? 64).map (fun i => (i.zero, i.size)) = some (some (.nilFunc : Value), 1) := by kernel_rfl
theorem on65 : isOne Try.prog 65 = true := by kernel_rfl
theorem sz65 : (Try.prog.info? 65).map (·.size) = some 1 := by kernel_rfl
theorem zr65 : (Try.prog.info? 65).map (·.zero) = some (some (.nilFunc : Value)) := by kernel_rfl
theorem zs65 : (Try.prog.info? 65).map (fun i => (i.zero, i.size)) = some (some (.nilFunc : Value), 1) := by kernel_rfl
theorem on66 : isOne Try.prog 66 = true := by kernel_rfl
theorem sz66 : (Try.prog.info? 66).map (·.size) = some 1 := by kernel_rfl
theorem zr66 : (Try.prog.info? 66).map (·.zero) = some (some (.nilFunc : Value)) := by kernel_rfl
theorem zs66 : (Try.prog.info? 66).map (fun i => (i.zero, i.size)) = some (some (.nilFunc : Value), 1) := by kernel_rfl
theorem on67 : isOne Try.prog 67 = true := by kernel_rfl
theorem sz67 : (Try.prog.info? 67).map (·.size) = some 1 := by kernel_rfl
theorem zr67 : (Try.prog.info? 67).map (·.zero) = some (some (.nilFunc : Value)) := by kernel_rfl
theorem zs67 : (Try.prog.info? 67).map (fun i => (i.zero, i.size)) = some (some (.nilFunc : Value), 1) := by kernel_rfl
theorem un68 : Try.prog.underlying 68 = some (.slice 4) := Try.underlying68
theorem on68 : isOne Try.prog 68 = true := by kernel_rfl
theorem sz68 : (Try.prog.info? 68).map (·.size) = some 1 := by kernel_rfl
theorem zr68 : (Try.prog.info? 68).map (·.zero) = some (some (.slice none 0 0 : Value)) := by kernel_rfl
theorem zs68 : (Try.prog.info? 68).map (fun i => (i.zero, i.size)) = some (some (.slice none 0 0 : Value), 1) := by kernel_rfl
theorem on69 : isOne Try.prog 69 = true := by kernel_rfl
theorem sz69 : (Try.prog.info? 69).map (·.size) = some 1 := by kernel_rfl
theorem zr69 : (Try.prog.info? 69).map (·.zero) = some (some (.nilFunc : Value)) := by kernel_rfl
theorem zs69 : (Try.prog.info? 69).map (fun i => (i.zero, i.size)) = some (some (.nilFunc : Value), 1) := by kernel_rfl
theorem on70 : isOne Try.prog 70 = true := by kernel_rfl
theorem sz70 : (Try.prog.info? 70).map (·.size) = some 1 := by kernel_rfl
theorem zr70 : (Try.prog.info? 70).map (·.zero) = some (some (.nilFunc : Value)) := by kernel_rfl
theorem zs70 : (Try.prog.info? 70).map (fun i => (i.zero, i.size)) = some (some (.nilFunc : Value), 1) := by kernel_rfl
theorem on71 : isOne Try.prog 71 = true := by kernel_rfl
theorem sz71 : (Try.prog.info? 71).map (·.size) = some 1 := by kernel_rfl
theorem zr71 : (Try.prog.info? 71).map (·.zero) = some (some (.nilFunc : Value)) := by kernel_rfl
theorem zs71 : (Try.prog.info? 71).map (fun i => (i.zero, i.size)) = some (some (.nilFunc : Value), 1) := by kernel_rfl
theorem on72 : isOne Try.prog 72 = true := by kernel_rfl
theorem sz72 : (Try.prog.info? 72).map (·.size) = some 1 := by kernel_rfl
theorem zr72 : (Try.prog.info? 72).map (·.zero) = some (some (.nilFunc : Value)) := by kernel_rfl
theorem zs72 : (Try.prog.info? 72).map (fun i => (i.zero, i.size)) = some (some (.nilFunc : Value), 1) := by kernel_rfl
theorem on73 : isOne Try.prog 73 = true := by kernel_rfl
theorem sz73 : (Try.prog.info? 73).map (·.size) = some 1 := by kernel_rfl
theorem zr73 : (Try.prog.info? 73).map (·.zero) = some (some (.nilFunc : Value)) := by kernel_rfl
theorem zs73 : (Try.prog.info? 73).map (fun i => (i.zero, i.size)) = some (some (.nilFunc : Value), 1) := by kernel_rfl
theorem on74 : isOne Try.prog 74 = true := by kernel_rfl
theorem sz74 : (Try.prog.info? 74).map (·.size) = some 1 := by kernel_rfl
theorem zr74 : (Try.prog.info? 74).map (·.zero) = some (some (.nilFunc : Value)) := by kernel_rfl
theorem zs74 : (Try.prog.info? 74).map (fun i => (i.zero, i.size)) = some (some (.nilFunc : Value), 1) := by kernel_rfl
theorem on75 : isOne Try.prog 75 = true := by kernel_rfl
theorem sz75 : (Try.prog.info? 75).map (·.size) = some 1 := by kernel_rfl
theorem zr75 : (Try.prog.info? 75).map (·.zero) = some (some (.nilFunc : Value)) := by kernel_rfl
theorem zs75 : (Try.prog.info? 75).map (fun i => (i.zero, i.size)) = some (some (.nilFunc : Value), 1) := by kernel_rfl
theorem un76 : Try.prog.underlying 76 = some (.pointer 95) := Try.underlying76
theorem on76 : isOne Try.prog 76 = true := by kernel_rfl
theorem sz76 : (Try.prog.info? 76).map (·.size) = some 1 := by kernel_rfl
theorem zr76 : (Try.prog.info? 76).map (·.zero) = some (some (.pointer none : Value)) := by kernel_rfl
theorem zs76 : (Try.prog.info? 76).map (fun i => (i.zero, i.size)) = some (some (.pointer none : Value), 1) := by kernel_rfl
theorem on77 : isOne Try.prog 77 = true := by kernel_rfl
theorem sz77 : (Try.prog.info? 77).map (·.size) = some 1 := by kernel_rfl
theorem zr77 : (Try.prog.info? 77).map (·.zero) = some (some (.nilFunc : Value)) := by kernel_rfl
theorem zs77 : (Try.prog.info? 77).map (fun i => (i.zero, i.size)) = some (some (.nilFunc : Value), 1) := by kernel_rfl
theorem on78 : isOne Try.prog 78 = true := by kernel_rfl
theorem sz78 : (Try.prog.info? 78).map (·.size) = some 1 := by kernel_rfl
theorem zr78 : (Try.prog.info? 78).map (·.zero) = some (some (.nilFunc : Value)) := by kernel_rfl
theorem zs78 : (Try.prog.info? 78).map (fun i => (i.zero, i.size)) = some (some (.nilFunc : Value), 1) := by kernel_rfl
theorem on79 : isOne Try.prog 79 = true := by kernel_rfl
theorem sz79 : (Try.prog.info? 79).map (·.size) = some 1 := by kernel_rfl
theorem zr79 : (Try.prog.info? 79).map (·.zero) = some (some (.nilFunc : Value)) := by kernel_rfl
theorem zs79 : (Try.prog.info? 79).map (fun i => (i.zero, i.size)) = some (some (.nilFunc : Value), 1) := by kernel_rfl
theorem on80 : isOne Try.prog 80 = true := by kernel_rfl
theorem sz80 : (Try.prog.info? 80).map (·.size) = some 1 := by kernel_rfl
theorem zr80 : (Try.prog.info? 80).map (·.zero) = some (some (.nilFunc : Value)) := by kernel_rfl
theorem zs80 : (Try.prog.info? 80).map (fun i => (i.zero, i.size)) = some (some (.nilFunc : Value), 1) := by kernel_rfl
theorem on81 : isOne Try.prog 81 = true := by kernel_rfl
theorem sz81 : (Try.prog.info? 81).map (·.size) = some 1 := by kernel_rfl
theorem zr81 : (Try.prog.info? 81).map (·.zero) = some (some (.nilFunc : Value)) := by kernel_rfl
theorem zs81 : (Try.prog.info? 81).map (fun i => (i.zero, i.size)) = some (some (.nilFunc : Value), 1) := by kernel_rfl
theorem on82 : isOne Try.prog 82 = true := by kernel_rfl
theorem sz82 : (Try.prog.info? 82).map (·.size) = some 1 := by kernel_rfl
theorem zr82 : (Try.prog.info? 82).map (·.zero) = some (some (.nilFunc : Value)) := by kernel_rfl
theorem zs82 : (Try.prog.info? 82).map (fun i => (i.zero, i.size)) = some (some (.nilFunc : Value), 1) := by kernel_rfl
theorem on84 : isOne Try.prog 84 = true := by kernel_rfl
theorem sz84 : (Try.prog.info? 84).map (·.size) = some 1 := by kernel_rfl
theorem zr84 : (Try.prog.info? 84).map (·.zero) = some (some (.nilFunc : Value)) := by kernel_rfl
theorem zs84 : (Try.prog.info? 84).map (fun i => (i.zero, i.size)) = some (some (.nilFunc : Value), 1) := by kernel_rfl
theorem on85 : isOne Try.prog 85 = true := by kernel_rfl
theorem sz85 : (Try.prog.info? 85).map (·.size) = some 1 := by kernel_rfl
theorem zr85 : (Try.prog.info? 85).map (·.zero) = some (some (.nilFunc : Value)) := by kernel_rfl
theorem zs85 : (Try.prog.info? 85).map (fun i => (i.zero, i.size)) = some (some (.nilFunc : Value), 1) := by kernel_rfl
theorem on86 : isOne Try.prog 86 = true := by kernel_rfl
theorem sz86 : (Try.prog.info? 86).map (·.size) = some 1 := by kernel_rfl
theorem zr86 : (Try.prog.info? 86).map (·.zero) = some (some (.nilFunc : Value)) := by kernel_rfl
theorem zs86 : (Try.prog.info? 86).map (fun i => (i.zero, i.size)) = some (some (.nilFunc : Value), 1) := by kernel_rfl
theorem on87 : isOne Try.prog 87 = true := by kernel_rfl
theorem sz87 : (Try.prog.info? 87).map (·.size) = some 1 := by kernel_rfl
theorem zr87 : (Try.prog.info? 87).map (·.zero) = some (some (.nilFunc : Value)) := by kernel_rfl
theorem zs87 : (Try.prog.info? 87).map (fun i => (i.zero, i.size)) = some (some (.nilFunc : Value), 1) := by kernel_rfl
theorem un89 : Try.prog.underlying 89 = some (.int .u64) := Try.underlying89
theorem on89 : isOne Try.prog 89 = true := by kernel_rfl
theorem sz89 : (Try.prog.info? 89).map (·.size) = some 1 := by kernel_rfl
theorem zr89 : (Try.prog.info? 89).map (·.zero) = some (some (.int .u64 0 : Value)) := by kernel_rfl
theorem zs89 : (Try.prog.info? 89).map (fun i => (i.zero, i.size)) = some (some (.int .u64 0 : Value), 1) := by kernel_rfl
theorem on90 : isOne Try.prog 90 = true := by kernel_rfl
theorem sz90 : (Try.prog.info? 90).map (·.size) = some 1 := by kernel_rfl
theorem zr90 : (Try.prog.info? 90).map (·.zero) = some (some (.nilFunc : Value)) := by kernel_rfl
theorem zs90 : (Try.prog.info? 90).map (fun i => (i.zero, i.size)) = some (some (.nilFunc : Value), 1) := by kernel_rfl
theorem on91 : isOne Try.prog 91 = true := by kernel_rfl
theorem sz91 : (Try.prog.info? 91).map (·.size) = some 1 := by kernel_rfl
theorem zr91 : (Try.prog.info? 91).map (·.zero) = some (some (.nilFunc : Value)) := by kernel_rfl
theorem zs91 : (Try.prog.info? 91).map (fun i => (i.zero, i.size)) = some (some (.nilFunc : Value), 1) := by kernel_rfl
theorem on92 : isOne Try.prog 92 = true := by kernel_rfl
theorem sz92 : (Try.prog.info? 92).map (·.size) = some 1 := by kernel_rfl
theorem zr92 : (Try.prog.info? 92).map (·.zero) = some (some (.nilFunc : Value)) := by kernel_rfl
theorem zs92 : (Try.prog.info? 92).map (fun i => (i.zero, i.size)) = some (some (.nilFunc : Value), 1) := by kernel_rfl
theorem on93 : isOne Try.prog 93 = true := by kernel_rfl
theorem sz93 : (Try.prog.info? 93).map (·.size) = some 1 := by kernel_rfl
theorem zr93 : (Try.prog.info? 93).map (·.zero) = some (some (.nilFunc : Value)) := by kernel_rfl
theorem zs93 : (Try.prog.info? 93).map (fun i => (i.zero, i.size)) = some (some (.nilFunc : Value), 1) := by kernel_rfl
theorem ag94 : aggB Try.prog 94 3 = true := by kernel_rfl
theorem sz94 : (Try.prog.info? 94).map (·.size) = some 3 := by kernel_rfl
theorem fo94_0 : fieldOff Try.prog 94 0 = some 0 := by kernel_rfl
theorem fo94_1 : fieldOff Try.prog 94 1 = some 1 := by kernel_rfl
theorem fo94_2 : fieldOff Try.prog 94 2 = some 2 := by kernel_rfl
theorem zr94 : (Try.prog.info? 94).map (·.zero) = some (some (.agg #[.slice none 0 0, .int .i64 0, .bool false] : Value)) := by kernel_rfl
theorem zs94 : (Try.prog.info? 94).map (fun i => (i.zero, i.size)) = some (some (.agg #[.slice none 0 0, .int .i64 0, .bool false] : Value), 3) := by kernel_rfl
theorem ag95 : aggB Try.prog 95 3 = true := by kernel_rfl
theorem sz95 : (Try.prog.info? 95).map (·.size) = some 3 := by kernel_rfl
theorem fo95_0 : fieldOff Try.prog 95 0 = some 0 := by kernel_rfl
theorem fo95_1 : fieldOff Try.prog 95 1 = some 1 := by kernel_rfl
theorem fo95_2 : fieldOff Try.prog 95 2 = some 2 := by kernel_rfl
theorem zr95 : (Try.prog.info? 95).map (·.zero) = some (some (.agg #[.slice none 0 0, .int .i64 0, .bool false] : Value)) := by kernel_rfl
theorem zs95 : (Try.prog.info? 95).map (fun i => (i.zero, i.size)) = some (some (.agg #[.slice none 0 0, .int .i64 0, .bool false] : Value), 3) := by kernel_rfl
theorem un96 : Try.prog.underlying 96 = some (.slice 53) := Try.underlying96
theorem on96 : isOne Try.prog 96 = true := by kernel_rfl
theorem sz96 : (Try.prog.info? 96).map (·.size) = some 1 := by kernel_rfl
theorem zr96 : (Try.prog.info? 96).map (·.zero) = some (some (.slice none 0 0 : Value)) := by kernel_rfl
theorem zs96 : (Try.prog.info? 96).map (fun i => (i.zero, i.size)) = some (some (.slice none 0 0 : Value), 1) := by kernel_rfl
theorem un97 : Try.prog.underlying 97 = some (.slice 24) := Try.underlying97
theorem on97 : isOne Try.prog 97 = true := by kernel_rfl
theorem sz97 : (Try.prog.info? 97).map (·.size) = some 1 := by kernel_rfl
theorem zr97 : (Try.prog.info? 97).map (·.zero) = some (some (.slice none 0 0 : Value)) := by kernel_rfl
theorem zs97 : (Try.prog.info? 97).map (fun i => (i.zero, i.size)) = some (some (.slice none 0 0 : Value), 1) := by kernel_rfl
theorem on98 : isOne Try.prog 98 = true := by kernel_rfl
theorem sz98 : (Try.prog.info? 98).map (·.size) = some 1 := by kernel_rfl
theorem zr98 : (Try.prog.info? 98).map (·.zero) = some (some (.nilFunc : Value)) := by kernel_rfl
theorem zs98 : (Try.prog.info? 98).map (fun i => (i.zero, i.size)) = some (some (.nilFunc : Value), 1) := by kernel_rfl
theorem on99 : isOne Try.prog 99 = true := by kernel_rfl
theorem sz99 : (Try.prog.info? 99).map (·.size) = some 1 := by kernel_rfl
theorem zr99 : (Try.prog.info? 99).map (·.zero) = some (some (.nilFunc : Value)) := by kernel_rfl
theorem zs99 : (Try.prog.info? 99).map (fun i => (i.zero, i.size)) = some (some (.nilFunc : Value), 1) := by kernel_rfl
theorem un100 : Try.prog.underlying 100 = some (.pointer 121) := Try.underlying100
theorem on100 : isOne Try.prog 100 = true := by kernel_rfl
theorem sz100 : (Try.prog.info? 100).map (·.size) = some 1 := by kernel_rfl
theorem zr100 : (Try.prog.info? 100).map (·.zero) = some (some (.pointer none : Value)) := by kernel_rfl
theorem zs100 : (Try.prog.info? 100).map (fun i => (i.zero, i.size)) = some (some (.pointer none : Value), 1) := by kernel_rfl
theorem on101 : isOne Try.prog 101 = true := by kernel_rfl
theorem sz101 : (Try.prog.info? 101).map (·.size) = some 1 := by kernel_rfl
theorem zr101 : (Try.prog.info? 101).map (·.zero) = some (some (.nilFunc : Value)) := by kernel_rfl
theorem zs101 : (Try.prog.info? 101).map (fun i => (i.zero, i.size)) = some (some (.nilFunc : Value), 1) := by kernel_rfl
theorem on102 : isOne Try.prog 102 = true := by kernel_rfl
theorem sz102 : (Try.prog.info? 102).map (·.size) = some 1 := by kernel_rfl
theorem zr102 : (Try.prog.info? 102).map (·.zero) = some (some (.nilFunc : Value)) := by kernel_rfl
theorem zs102 : (Try.prog.info? 102).map (fun i => (i.zero, i.size)) = some (some (.nilFunc : Value), 1) := by kernel_rfl
theorem un103 : Try.prog.underlying 103 = some (.int .u32) := Try.underlying103
theorem on103 : isOne Try.prog 103 = true := by kernel_rfl
theorem sz103 : (Try.prog.info? 103).map (·.size) = some 1 := by kernel_rfl
theorem zr103 : (Try.prog.info? 103).map (·.zero) = some (some (.int .u32 0 : Value)) := by kernel_rfl
theorem zs103 : (Try.prog.info? 103).map (fun i => (i.zero, i.size)) = some (some (.int .u32 0 : Value), 1) := by kernel_rfl
theorem on104 : isOne Try.prog 104 = true := by kernel_rfl
theorem sz104 : (Try.prog.info? 104).map (·.size) = some 1 := by kernel_rfl
theorem zr104 : (Try.prog.info? 104).map (·.zero) = some (some (.nilFunc : Value)) := by kernel_rfl
theorem zs104 : (Try.prog.info? 104).map (fun i => (i.zero, i.size)) = some (some (.nilFunc : Value), 1) := by kernel_rfl
theorem on105 : isOne Try.prog 105 = true := by kernel_rfl
theorem sz105 : (Try.prog.info? 105).map (·.size) = some 1 := by kernel_rfl
theorem zr105 : (Try.prog.info? 105).map (·.zero) = some (some (.nilFunc : Value)) := by kernel_rfl
theorem zs105 : (Try.prog.info? 105).map (fun i => (i.zero, i.size)) = some (some (.nilFunc : Value), 1) := by kernel_rfl
theorem on106 : isOne Try.prog 106 = true := by kernel_rfl
theorem sz106 : (Try.prog.info? 106).map (·.size) = some 1 := by kernel_rfl
theorem zr106 : (Try.prog.info? 106).map (·.zero) = some (some (.nilFunc : Value)) := by kernel_rfl
theorem zs106 : (Try.prog.info? 106).map (fun i => (i.zero, i.size)) = some (some (.nilFunc : Value), 1) := by kernel_rfl
theorem on107 : isOne Try.prog 107 = true := by kernel_rfl
theorem sz107 : (Try.prog.info? 107).map (·.size) = some 1 := by kernel_rfl
theorem zr107 : (Try.prog.info? 107).map (·.zero) = some (some (.nilFunc : Value)) := by kernel_rfl
theorem zs107 : (Try.prog.info? 107).map (fun i => (i.zero, i.size)) = some (some (.nilFunc : Value), 1) := by kernel_rfl
theorem on108 : isOne Try.prog 108 = true := by kernel_rfl
theorem sz108 : (Try.prog.info? 108).map (·.size) = some 1 := by kernel_rfl
theorem zr108 : (Try.prog.info? 108).map (·.zero) = some (some (.nilFunc : Value)) := by kernel_rfl
theorem zs108 : (Try.prog.info? 108).map (fun i => (i.zero, i.size)) = some (some (.nilFunc : Value), 1) := by kernel_rfl
theorem on109 : isOne Try.prog 109 = true := by kernel_rfl
theorem sz109 : (Try.prog.info? 109).map (·.size) = some 1 := by kernel_rfl
theorem zr109 : (Try.prog.info? 109).map (·.zero) = some (some (.nilFunc : Value)) := by kernel_rfl
theorem zs109 : (Try.prog.info? 109).map (fun i => (i.zero, i.size)) = some (some (.nilFunc : Value), 1) := by kernel_rfl
theorem un110 : Try.prog.underlying 110 = some (.slice 3) := Try.underlying110
theorem on110 : isOne Try.prog 110 = true := by kernel_rfl
theorem sz110 : (Try.prog.info? 110).map (·.size) = some 1 := by kernel_rfl
theorem zr110 : (Try.prog.info? 110).map (·.zero) = some (some (.slice none 0 0 : Value)) := by kernel_rfl
theorem zs110 : (Try.prog.info? 110).map (fun i => (i.zero, i.size)) = some (some (.slice none 0 0 : Value), 1) := by kernel_rfl
theorem on111 : isOne Try.prog 111 = true := by kernel_rfl
theorem sz111 : (Try.prog.info? 111).map (·.size) = some 1 := by kernel_rfl
theorem zr111 : (Try.prog.info? 111).map (·.zero) = some (some (.nilFunc : Value)) := by kernel_rfl
theorem zs111 : (Try.prog.info? 111).map (fun i => (i.zero, i.size)) = some (some (.nilFunc : Value), 1) := by kernel_rfl
theorem on112 : isOne Try.prog 112 = true := by kernel_rfl
theorem sz112 : (Try.prog.info? 112).map (·.size) = some 1 := by kernel_rfl
theorem zr112 : (Try.prog.info? 112).map (·.zero) = some (some (.nilFunc : Value)) := by kernel_rfl
theorem zs112 : (Try.prog.info? 112).map (fun i => (i.zero, i.size)) = some (some (.nilFunc : Value), 1) := by kernel_rfl
theorem on113 : isOne Try.prog 113 = true := by kernel_rfl
theorem sz113 : (Try.prog.info? 113).map (·.size) = some 1 := by kernel_rfl
theorem zr113 : (Try.prog.info? 113).map (·.zero) = some (some (.nilFunc : Value)) := by kernel_rfl
theorem zs113 : (Try.prog.info? 113).map (fun i => (i.zero, i.size)) = some (some (.nilFunc : Value), 1) := by kernel_rfl
theorem un114 : Try.prog.underlying 114 = some (.int .u16) := Try.underlying114
theorem on114 : isOne Try.prog 114 = true := by kernel_rfl
theorem sz114 : (Try.prog.info? 114).map (·.size) = some 1 := by kernel_rfl
theorem zr114 : (Try.prog.info? 114).map (·.zero) = some (some (.int .u16 0 : Value)) := by kernel_rfl
theorem zs114 : (Try.prog.info? 114).map (fun i => (i.zero, i.size)) = some (some (.int .u16 0 : Value), 1) := by kernel_rfl
theorem un115 : Try.prog.underlying 115 = some (.slice 103) := Try.underlying115
theorem on115 : isOne Try.prog 115 = true := by kernel_rfl
theorem sz115 : (Try.prog.info? 115).map (·.size) = some 1 := by kernel_rfl
theorem zr115 : (Try.prog.info? 115).map (·.zero) = some (some (.slice none 0 0 : Value)) := by kernel_rfl
theorem zs115 : (Try.prog.info? 115).map (fun i => (i.zero, i.size)) = some (some (.slice none 0 0 : Value), 1) := by kernel_rfl
theorem on116 : isOne Try.prog 116 = true := by kernel_rfl
theorem sz116 : (Try.prog.info? 116).map (·.size) = some 1 := by kernel_rfl
theorem zr116 : (Try.prog.info? 116).map (·.zero) = some (some (.nilFunc : Value)) := by kernel_rfl
theorem zs116 : (Try.prog.info? 116).map (fun i => (i.zero, i.size)) = some (some (.nilFunc : Value), 1) := by kernel_rfl
theorem un117 : Try.prog.underlying 117 = some (.array 3 3) := Try.underlying117
theorem ag117 : aggB Try.prog 117 3 = true := by kernel_rfl
theorem sz117 : (Try.prog.info? 117).map (·.size) = some 3 := by kernel_rfl
theorem zr117 : (Try.prog.info? 117).map (·.zero) = some (some (.agg #[.int .i64 0, .int .i64 0, .int .i64 0] : Value)) := by kernel_rfl
theorem zs117 : (Try.prog.info? 117).map (fun i => (i.zero, i.size)) = some (some (.agg #[.int .i64 0, .int .i64 0, .int .i64 0] : Value), 3) := by kernel_rfl
theorem ag118 : aggB Try.prog 118 12 = true := by kernel_rfl
theorem sz118 : (Try.prog.info? 118).map (·.size) = some 12 := by kernel_rfl
theorem fo118_0 : fieldOff Try.prog 118 0 = some 0 := by kernel_rfl
theorem fo118_1 : fieldOff Try.prog 118 1 = some 3 := by kernel_rfl
theorem fo118_2 : fieldOff Try.prog 118 2 = some 6 := by kernel_rfl
theorem fo118_3 : fieldOff Try.prog 118 3 = some 9 := by kernel_rfl
theorem zr118 : (Try.prog.info? 118).map (·.zero) = some (some (.agg #[.int .i64 0, .int .i64 0, .int .i64 0, .int .i64 0, .int .i64 0, .int .i64 0, .int .i64 0, .int .i64 0, .int .i64 0, .int .i64 0, .int .i64 0, .int .i64 0] : Value)) := by kernel_rfl
theorem zs118 : (Try.prog.info? 118).map (fun i => (i.zero, i.size)) = some (some (.agg #[.int .i64 0, .int .i64 0, .int .i64 0, .int .i64 0, .int .i64 0, .int .i64 0, .int .i64 0, .int .i64 0, .int .i64 0, .int .i64 0, .int .i64 0, .int .i64 0] : Value), 12) := by kernel_rfl
theorem ag119 : aggB Try.prog 119 12 = true := by kernel_rfl
theorem sz119 : (Try.prog.info? 119).map (·.size) = some 12 := by kernel_rfl
theorem fo119_0 : fieldOff Try.prog 119 0 = some 0 := by kernel_rfl
theorem fo119_1 : fieldOff Try.prog 119 1 = some 3 := by kernel_rfl
theorem fo119_2 : fieldOff Try.prog 119 2 = some 6 := by kernel_rfl
theorem fo119_3 : fieldOff Try.prog 119 3 = some 9 := by kernel_rfl
theorem zr119 : (Try.prog.info? 119).map (·.zero) = some (some (.agg #[.int .i64 0, .int .i64 0, .int .i64 0, .int .i64 0, .int .i64 0, .int .i64 0, .int .i64 0, .int .i64 0, .int .i64 0, .int .i64 0, .int .i64 0, .int .i64 0] : Value)) := by kernel_rfl
theorem zs119 : (Try.prog.info? 119).map (fun i => (i.zero, i.size)) = some (some (.agg #[.int .i64 0, .int .i64 0, .int .i64 0, .int .i64 0, .int .i64 0, .int .i64 0, .int .i64 0, .int .i64 0, .int .i64 0, .int .i64 0, .int .i64 0, .int .i64 0] : Value), 12) := by kernel_rfl
theorem ag120 : aggB Try.prog 120 15 = true := by kernel_rfl
theorem sz120 : (Try.prog.info? 120).map (·.size) = some 15 := by kernel_rfl
theorem fo120_0 : fieldOff Try.prog 120 0 = some 0 := by kernel_rfl
theorem fo120_1 : fieldOff Try.prog 120 1 = some 1 := by kernel_rfl
theorem fo120_2 : fieldOff Try.prog 120 2 = some 2 := by kernel_rfl
theorem fo120_3 : fieldOff Try.prog 120 3 = some 3 := by kernel_rfl
theorem zr120 : (Try.prog.info? 120).map (·.zero) = some (some (.agg #[.slice none 0 0, .slice none 0 0, .int .i64 0, .int .i64 0, .int .i64 0, .int .i64 0, .int .i64 0, .int .i64 0, .int .i64 0, .int .i64 0, .int .i64 0, .int .i64 0, .int .i64 0, .int .i64 0, .int .i64 0] : Value)) := by kernel_rfl
theorem zs120 : (Try.prog.info? 120).map (fun i => (i.zero, i.size)) = some (some (.agg #[.slice none 0 0, .slice none 0 0, .int .i64 0, .int .i64 0, .int .i64 0, .int .i64 0, .int .i64 0, .int .i64 0, .int .i64 0, .int .i64 0, .int .i64 0, .int .i64 0, .int .i64 0, .int .i64 0, .int .i64 0] : Value), 15) := by kernel_rfl
theorem ag121 : aggB Try.prog 121 15 = true := by kernel_rfl
theorem sz121 : (Try.prog.info? 121).map (·.size) = some 15 := by kernel_rfl
theorem fo121_0 : fieldOff Try.prog 121 0 = some 0 := by kernel_rfl
theorem fo121_1 : fieldOff Try.prog 121 1 = some 1 := by kernel_rfl
theorem fo121_2 : fieldOff Try.prog 121 2 = some 2 := by kernel_rfl
theorem fo121_3 : fieldOff Try.prog 121 3 = some 3 := by kernel_rfl
theorem zr121 : (Try.prog.info? 121).map (·.zero) = some (some (.agg #[.slice none 0 0, .slice none 0 0, .int .i64 0, .int .i64 0, .int .i64 0, .int .i64 0, .int .i64 0, .int .i64 0, .int .i64 0, .int .i64 0, .int .i64 0, .int .i64 0, .int .i64 0, .int .i64 0, .int .i64 0] : Value)) := by kernel_rfl
theorem zs121 : (Try.prog.info? 121).map (fun i => (i.zero, i.size)) = some (some (.agg #[.slice none 0 0, .slice none 0 0, .int .i64 0, .int .i64 0, .int .i64 0, .int .i64 0, .int .i64 0, .int .i64 0, .int .i64 0, .int .i64 0, .int .i64 0, .int .i64 0, .int .i64 0, .int .i64 0, .int .i64 0] : Value), 15) := by kernel_rfl
theorem on122 : isOne Try.prog 122 = true := by kernel_rfl
theorem sz122 : (Try.prog.info? 122).map (·.size) = some 1 := by kernel_rfl
theorem zr122 : (Try.prog.info? 122).map (·.zero) = some (some (.nilFunc : Value)) := by kernel_rfl
theorem zs122 : (Try.prog.info? 122).map (fun i => (i.zero, i.size)) = some (some (.nilFunc : Value), 1) := by kernel_rfl
theorem on123 : isOne Try.prog 123 = true := by kernel_rfl
theorem sz123 : (Try.prog.info? 123).map (·.size) = some 1 := by kernel_rfl
theorem zr123 : (Try.prog.info? 123).map (·.zero) = some (some (.nilFunc : Value)) := by kernel_rfl
theorem zs123 : (Try.prog.info? 123).map (fun i => (i.zero, i.size)) = some (some (.nilFunc : Value), 1) := by kernel_rfl
theorem on124 : isOne Try.prog 124 = true := by kernel_rfl
theorem sz124 : (Try.prog.info? 124).map (·.size) = some 1 := by kernel_rfl
theorem zr124 : (Try.prog.info? 124).map (·.zero) = some (some (.nilFunc : Value)) := by kernel_rfl
theorem zs124 : (Try.prog.info? 124).map (fun i => (i.zero, i.size)) = some (some (.nilFunc : Value), 1) := by kernel_rfl
theorem on125 : isOne Try.prog 125 = true := by kernel_rfl
theorem sz125 : (Try.prog.info? 125).map (·.size) = some 1 := by kernel_rfl
theorem zr125 : (Try.prog.info? 125).map (·.zero) = some (some (.nilFunc : Value)) := by kernel_rfl
theorem zs125 : (Try.prog.info? 125).map (fun i => (i.zero, i.size)) = some (some (.nilFunc : Value), 1) := by kernel_rfl
theorem un126 : Try.prog.underlying 126 = some (.array 8 103) := Try.underlying126
theorem ag126 : aggB Try.prog 126 8 = true := by kernel_rfl
theorem sz126 : (Try.prog.info? 126).map (·.size) = some 8 := by kernel_rfl
theorem zr126 : (Try.prog.info? 126).map (·.zero) = some (some (.agg #[.int .u32 0, .int .u32 0, .int .u32 0, .int .u32 0, .int .u32 0, .int .u32 0, .int .u32 0, .int .u32 0] : Value)) := by kernel_rfl
theorem zs126 : (Try.prog.info? 126).map (fun i => (i.zero, i.size)) = some (some (.agg #[.int .u32 0, .int .u32 0, .int .u32 0, .int .u32 0, .int .u32 0, .int .u32 0, .int .u32 0, .int .u32 0] : Value), 8) := by kernel_rfl
theorem on127 : isOne Try.prog 127 = true := by kernel_rfl
theorem sz127 : (Try.prog.info? 127).map (·.size) = some 1 := by kernel_rfl
theorem zr127 : (Try.prog.info? 127).map (·.zero) = some (some (.nilFunc : Value)) := by kernel_rfl
theorem zs127 : (Try.prog.info? 127).map (fun i => (i.zero, i.size)) = some (some (.nilFunc : Value), 1) := by kernel_rfl
theorem on128 : isOne Try.prog 128 = true := by kernel_rfl
theorem sz128 : (Try.prog.info? 128).map (·.size) = some 1 := by kernel_rfl
theorem zr128 : (Try.prog.info? 128).map (·.zero) = some (some (.nilFunc : Value)) := by kernel_rfl
theorem zs128 : (Try.prog.info? 128).map (fun i => (i.zero, i.size)) = some (some (.nilFunc : Value), 1) := by kernel_rfl
theorem on129 : isOne Try.prog 129 = true := by kernel_rfl
theorem sz129 : (Try.prog.info? 129).map (·.size) = some 1 := by kernel_rfl
theorem zr129 : (Try.prog.info? 129).map (·.zero) = some (some (.nilFunc : Value)) := by kernel_rfl
theorem zs129 : (Try.prog.info? 129).map (fun i => (i.zero, i.size)) = some (some (.nilFunc : Value), 1) := by kernel_rfl
theorem ag130 : aggB Try.prog 130 4 = true := by kernel_rfl
theorem sz130 : (Try.prog.info? 130).map (·.size) = some 4 := by kernel_rfl
theorem fo130_0 : fieldOff Try.prog 130 0 = some 0 := by kernel_rfl
theorem fo130_1 : fieldOff Try.prog 130 1 = some 1 := by kernel_rfl
theorem fo130_2 : fieldOff Try.prog 130 2 = some 2 := by kernel_rfl
theorem fo130_3 : fieldOff Try.prog 130 3 = some 3 := by kernel_rfl
theorem zr130 : (Try.prog.info? 130).map (·.zero) = some (some (.agg #[.pointer none, .pointer none, .pointer none, .string ByteArray.empty] : Value)) := by kernel_rfl
theorem zs130 : (Try.prog.info? 130).map (fun i => (i.zero, i.size)) = some (some (.agg #[.pointer none, .pointer none, .pointer none, .string ByteArray.empty] : Value), 4) := by kernel_rfl
theorem ag131 : aggB Try.prog 131 4 = true := by kernel_rfl
theorem sz131 : (Try.prog.info? 131).map (·.size) = some 4 := by kernel_rfl
theorem fo131_0 : fieldOff Try.prog 131 0 = some 0 := by kernel_rfl
theorem fo131_1 : fieldOff Try.prog 131 1 = some 1 := by kernel_rfl
theorem fo131_2 : fieldOff Try.prog 131 2 = some 2 := by kernel_rfl
theorem fo131_3 : fieldOff Try.prog 131 3 = some 3 := by kernel_rfl
theorem zr131 : (Try.prog.info? 131).map (·.zero) = some (some (.agg #[.pointer none, .pointer none, .pointer none, .string ByteArray.empty] : Value)) := by kernel_rfl
theorem zs131 : (Try.prog.info? 131).map (fun i => (i.zero, i.size)) = some (some (.agg #[.pointer none, .pointer none, .pointer none, .string ByteArray.empty] : Value), 4) := by kernel_rfl
theorem un132 : Try.prog.underlying 132 = some (.array 0 16) := Try.underlying132
theorem sz132 : (Try.prog.info? 132).map (·.size) = some 0 := by kernel_rfl
theorem zr132 : (Try.prog.info? 132).map (·.zero) = some (some (.agg #[] : Value)) := by kernel_rfl
theorem zs132 : (Try.prog.info? 132).map (fun i => (i.zero, i.size)) = some (some (.agg #[] : Value), 0) := by kernel_rfl
theorem sz133 : (Try.prog.info? 133).map (·.size) = some 0 := by kernel_rfl
theorem zr133 : (Try.prog.info? 133).map (·.zero) = some (some (.agg #[] : Value)) := by kernel_rfl
theorem zs133 : (Try.prog.info? 133).map (fun i => (i.zero, i.size)) = some (some (.agg #[] : Value), 0) := by kernel_rfl
theorem sz134 : (Try.prog.info? 134).map (·.size) = some 0 := by kernel_rfl
theorem zr134 : (Try.prog.info? 134).map (·.zero) = some (some (.agg #[] : Value)) := by kernel_rfl
theorem zs134 : (Try.prog.info? 134).map (fun i => (i.zero, i.size)) = some (some (.agg #[] : Value), 0) := by kernel_rfl
theorem on135 : isOne Try.prog 135 = true := by kernel_rfl
theorem sz135 : (Try.prog.info? 135).map (·.size) = some 1 := by kernel_rfl
theorem zr135 : (Try.prog.info? 135).map (·.zero) = some (some (.nilFunc : Value)) := by kernel_rfl
theorem zs135 : (Try.prog.info? 135).map (fun i => (i.zero, i.size)) = some (some (.nilFunc : Value), 1) := by kernel_rfl
theorem un136 : Try.prog.underlying 136 = some (.int .u8) := Try.underlying136
theorem on136 : isOne Try.prog 136 = true := by kernel_rfl
theorem sz136 : (Try.prog.info? 136).map (·.size) = some 1 := by kernel_rfl
theorem zr136 : (Try.prog.info? 136).map (·.zero) = some (some (.int .u8 0 : Value)) := by kernel_rfl
theorem zs136 : (Try.prog.info? 136).map (fun i => (i.zero, i.size)) = some (some (.int .u8 0 : Value), 1) := by kernel_rfl
theorem un137 : Try.prog.underlying 137 = some (.int .u8) := Try.underlying137
theorem on137 : isOne Try.prog 137 = true := by kernel_rfl
theorem sz137 : (Try.prog.info? 137).map (·.size) = some 1 := by kernel_rfl
theorem zr137 : (Try.prog.info? 137).map (·.zero) = some (some (.int .u8 0 : Value)) := by kernel_rfl
theorem zs137 : (Try.prog.info? 137).map (fun i => (i.zero, i.size)) = some (some (.int .u8 0 : Value), 1) := by kernel_rfl
theorem on138 : isOne Try.prog 138 = true := by kernel_rfl
theorem sz138 : (Try.prog.info? 138).map (·.size) = some 1 := by kernel_rfl
theorem zr138 : (Try.prog.info? 138).map (·.zero) = some (some (.nilFunc : Value)) := by kernel_rfl
theorem zs138 : (Try.prog.info? 138).map (fun i => (i.zero, i.size)) = some (some (.nilFunc : Value), 1) := by kernel_rfl
theorem un139 : Try.prog.underlying 139 = some (.pointer 5) := Try.underlying139
theorem on139 : isOne Try.prog 139 = true := by kernel_rfl
theorem sz139 : (Try.prog.info? 139).map (·.size) = some 1 := by kernel_rfl
theorem zr139 : (Try.prog.info? 139).map (·.zero) = some (some (.pointer none : Value)) := by kernel_rfl
theorem zs139 : (Try.prog.info? 139).map (fun i => (i.zero, i.size)) = some (some (.pointer none : Value), 1) := by kernel_rfl
theorem un140 : Try.prog.underlying 140 = some (.int .i32) := Try.underlying140
theorem on140 : isOne Try.prog 140 = true := by kernel_rfl
theorem sz140 : (Try.prog.info? 140).map (·.size) = some 1 := by kernel_rfl
theorem zr140 : (Try.prog.info? 140).map (·.zero) = some (some (.int .i32 0 : Value)) := by kernel_rfl
theorem zs140 : (Try.prog.info? 140).map (fun i => (i.zero, i.size)) = some (some (.int .i32 0 : Value), 1) := by kernel_rfl
theorem un141 : Try.prog.underlying 141 = some (.int .i32) := Try.underlying141
theorem on141 : isOne Try.prog 141 = true := by kernel_rfl
theorem sz141 : (Try.prog.info? 141).map (·.size) = some 1 := by kernel_rfl
theorem zr141 : (Try.prog.info? 141).map (·.zero) = some (some (.int .i32 0 : Value)) := by kernel_rfl
theorem zs141 : (Try.prog.info? 141).map (fun i => (i.zero, i.size)) = some (some (.int .i32 0 : Value), 1) := by kernel_rfl
theorem ag142 : aggB Try.prog 142 11 = true := by kernel_rfl
theorem sz142 : (Try.prog.info? 142).map (·.size) = some 11 := by kernel_rfl
theorem fo142_0 : fieldOff Try.prog 142 0 = some 0 := by kernel_rfl
theorem fo142_1 : fieldOff Try.prog 142 1 = some 1 := by kernel_rfl
theorem fo142_2 : fieldOff Try.prog 142 2 = some 2 := by kernel_rfl
theorem fo142_3 : fieldOff Try.prog 142 3 = some 3 := by kernel_rfl
theorem fo142_4 : fieldOff Try.prog 142 4 = some 4 := by kernel_rfl
theorem fo142_5 : fieldOff Try.prog 142 5 = some 5 := by kernel_rfl
theorem fo142_6 : fieldOff Try.prog 142 6 = some 6 := by kernel_rfl
theorem fo142_7 : fieldOff Try.prog 142 7 = some 7 := by kernel_rfl
theorem fo142_8 : fieldOff Try.prog 142 8 = some 8 := by kernel_rfl
theorem fo142_9 : fieldOff Try.prog 142 9 = some 9 := by kernel_rfl
theorem fo142_10 : fieldOff Try.prog 142 10 = some 10 := by kernel_rfl
theorem zr142 : (Try.prog.info? 142).map (·.zero) = some (some (.agg #[.int .u64 0, .int .u64 0, .int .u32 0, .int .u8 0, .int .u8 0, .int .u8 0, .int .u8 0, .nilFunc, .pointer none, .int .i32 0, .int .i32 0] : Value)) := by kernel_rfl
theorem zs142 : (Try.prog.info? 142).map (fun i => (i.zero, i.size)) = some (some (.agg #[.int .u64 0, .int .u64 0, .int .u32 0, .int .u8 0, .int .u8 0, .int .u8 0, .int .u8 0, .nilFunc, .pointer none, .int .i32 0, .int .i32 0] : Value), 11) := by kernel_rfl
theorem ag143 : aggB Try.prog 143 11 = true := by kernel_rfl
theorem sz143 : (Try.prog.info? 143).map (·.size) = some 11 := by kernel_rfl
theorem fo143_0 : fieldOff Try.prog 143 0 = some 0 := by kernel_rfl
theorem fo143_1 : fieldOff Try.prog 143 1 = some 1 := by kernel_rfl
theorem fo143_2 : fieldOff Try.prog 143 2 = some 2 := by kernel_rfl
theorem fo143_3 : fieldOff Try.prog 143 3 = some 3 := by kernel_rfl
theorem fo143_4 : fieldOff Try.prog 143 4 = some 4 := by kernel_rfl
theorem fo143_5 : fieldOff Try.prog 143 5 = some 5 := by kernel_rfl
theorem fo143_6 : fieldOff Try.prog 143 6 = some 6 := by kernel_rfl
theorem fo143_7 : fieldOff Try.prog 143 7 = some 7 := by kernel_rfl
theorem fo143_8 : fieldOff Try.prog 143 8 = some 8 := by kernel_rfl
theorem fo143_9 : fieldOff Try.prog 143 9 = some 9 := by kernel_rfl
theorem fo143_10 : fieldOff Try.prog 143 10 = some 10 := by kernel_rfl
theorem zr143 : (Try.prog.info? 143).map (·.zero) = some (some (.agg #[.int .u64 0, .int .u64 0, .int .u32 0, .int .u8 0, .int .u8 0, .int .u8 0, .int .u8 0, .nilFunc, .pointer none, .int .i32 0, .int .i32 0] : Value)) := by kernel_rfl
theorem zs143 : (Try.prog.info? 143).map (fun i => (i.zero, i.size)) = some (some (.agg #[.int .u64 0, .int .u64 0, .int .u32 0, .int .u8 0, .int .u8 0, .int .u8 0, .int .u8 0, .nilFunc, .pointer none, .int .i32 0, .int .i32 0] : Value), 11) := by kernel_rfl
theorem zb25_31 : (Try.prog.info? 31).map (fun i => (i.zero, i.size, i.bytes)) = some (some (.agg #[.int .u8 0, .int .u8 0] : Value), 2, 2) := by kernel_rfl
theorem sl25 : SlT Try.prog 25 31 (.agg #[.int .u8 0, .int .u8 0] : Value) 2 2 := SlT.mk' un25 zb25_31 rfl (by decide)
theorem zb39_44 : (Try.prog.info? 44).map (fun i => (i.zero, i.size, i.bytes)) = some (some (.agg #[.int .u8 0, .int .u8 0, .bool false] : Value), 3, 3) := by kernel_rfl
theorem sl39 : SlT Try.prog 39 44 (.agg #[.int .u8 0, .int .u8 0, .bool false] : Value) 3 3 := SlT.mk' un39 zb39_44 rfl (by decide)
theorem zb53_5 : (Try.prog.info? 5).map (fun i => (i.zero, i.size, i.bytes)) = some (some (.int .u8 0 : Value), 1, 1) := by kernel_rfl
theorem sl53 : SlT Try.prog 53 5 (.int .u8 0 : Value) 1 1 := SlT.mk' un53 zb53_5 rfl (by decide)
theorem zb68_4 : (Try.prog.info? 4).map (fun i => (i.zero, i.size, i.bytes)) = some (some (.bool false : Value), 1, 1) := by kernel_rfl
theorem sl68 : SlT Try.prog 68 4 (.bool false : Value) 1 1 := SlT.mk' un68 zb68_4 rfl (by decide)
theorem zb96_53 : (Try.prog.info? 53).map (fun i => (i.zero, i.size, i.bytes)) = some (some (.slice none 0 0 : Value), 1, 24) := by kernel_rfl
theorem sl96 : SlT Try.prog 96 53 (.slice none 0 0 : Value) 1 24 := SlT.mk' un96 zb96_53 rfl (by decide)
theorem zb97_24 : (Try.prog.info? 24).map (fun i => (i.zero, i.size, i.bytes)) = some (some (.int .u64 0 : Value), 1, 8) := by kernel_rfl
theorem sl97 : SlT Try.prog 97 24 (.int .u64 0 : Value) 1 8 := SlT.mk' un97 zb97_24 rfl (by decide)
theorem zb110_3 : (Try.prog.info? 3).map (fun i => (i.zero, i.size, i.bytes)) = some (some (.int .i64 0 : Value), 1, 8) := by kernel_rfl
theorem sl110 : SlT Try.prog 110 3 (.int .i64 0 : Value) 1 8 := SlT.mk' un110 zb110_3 rfl (by decide)
theorem zb115_103 : (Try.prog.info? 103).map (fun i => (i.zero, i.size, i.bytes)) = some (some (.int .u32 0 : Value), 1, 4) := by kernel_rfl
theorem sl115 : SlT Try.prog 115 103 (.int .u32 0 : Value) 1 4 := SlT.mk' un115 zb115_103 rfl (by decide)
theorem en3 : ∀ args w, (callFunc 3 args).run Try.prog w = .ok (.enter 3 args) w := enters Try.func3 (by kernel_rfl) rfl -- hailer/hailerlaw23.RosterChanges
theorem en4 : ∀ args w, (callFunc 4 args).run Try.prog w = .ok (.enter 4 args) w := enters Try.func4 (by kernel_rfl) rfl -- hailer/hailerlaw23.RosterSets
theorem en5 : ∀ args w, (callFunc 5 args).run Try.prog w = .ok (.enter 5 args) w := enters Try.func5 (by kernel_rfl) rfl -- hailer/hailerlaw23.RosterTells
theorem en6 : ∀ args w, (callFunc 6 args).run Try.prog w = .ok (.enter 6 args) w := enters Try.func6 (by kernel_rfl) rfl -- hailer/hailerlaw23.known
theorem en7 : ∀ args w, (callFunc 7 args).run Try.prog w = .ok (.enter 7 args) w := enters Try.func7 (by kernel_rfl) rfl -- slices.Clone[[]hailer/api.Dev,hailer/api.Dev]
theorem en8 : ∀ args w, (callFunc 8 args).run Try.prog w = .ok (.enter 8 args) w := enters Try.func8 (by kernel_rfl) rfl -- hailer/roster.With
theorem en9 : ∀ args w, (callFunc 9 args).run Try.prog w = .ok (.enter 9 args) w := enters Try.func9 (by kernel_rfl) rfl -- hailer/roster.Without
theorem en10 : ∀ args w, (callFunc 10 args).run Try.prog w = .ok (.enter 10 args) w := enters Try.func10 (by kernel_rfl) rfl -- hailer/hailerref23.Change
theorem en11 : ∀ args w, (callFunc 11 args).run Try.prog w = .ok (.enter 11 args) w := enters Try.func11 (by kernel_rfl) rfl -- hailer/hailerref23.Same
theorem en12 : ∀ args w, (callFunc 12 args).run Try.prog w = .ok (.enter 12 args) w := enters Try.func12 (by kernel_rfl) rfl -- slices.Equal[[]hailer/api.Dev,hailer/api.Dev]
theorem en13 : ∀ args w, (callFunc 13 args).run Try.prog w = .ok (.enter 13 args) w := enters Try.func13 (by kernel_rfl) rfl -- hailer/roster.New
theorem en14 : ∀ args w, (callFunc 14 args).run Try.prog w = .ok (.enter 14 args) w := enters Try.func14 (by kernel_rfl) rfl -- hailer/roster.Follows
theorem en15 : ∀ args w, (callFunc 15 args).run Try.prog w = .ok (.enter 15 args) w := enters Try.func15 (by kernel_rfl) rfl -- hailer/roster.Digest
theorem en16 : ∀ args w, (callFunc 16 args).run Try.prog w = .ok (.enter 16 args) w := enters Try.func16 (by kernel_rfl) rfl -- hailer/roster.May
theorem en17 : ∀ args w, (callFunc 17 args).run Try.prog w = .ok (.enter 17 args) w := enters Try.func17 (by kernel_rfl) rfl -- hailer/roster.Head
theorem en18 : ∀ args w, (callFunc 18 args).run Try.prog w = .ok (.enter 18 args) w := enters Try.func18 (by kernel_rfl) rfl -- hailer/hailerref23.May
theorem en19 : ∀ args w, (callFunc 19 args).run Try.prog w = .ok (.enter 19 args) w := enters Try.func19 (by kernel_rfl) rfl -- hailer/hailerref23.Follows
theorem en20 : ∀ args w, (callFunc 20 args).run Try.prog w = .ok (.enter 20 args) w := enters Try.func20 (by kernel_rfl) rfl -- hailer/hailerlaw23.came
theorem en21 : ∀ args w, (callFunc 21 args).run Try.prog w = .ok (.enter 21 args) w := enters Try.func21 (by kernel_rfl) rfl -- hailer/hailerref23.Came
theorem en22 : ∀ args w, (callFunc 22 args).run Try.prog w = .ok (.enter 22 args) w := enters Try.func22 (by kernel_rfl) rfl -- hailer/hailerref23.Digest
theorem en23 : ∀ args w, (callFunc 23 args).run Try.prog w = .ok (.enter 23 args) w := enters Try.func23 (by kernel_rfl) rfl -- hailer/roster.Has
theorem en24 : ∀ args w, (callFunc 24 args).run Try.prog w = .ok (.enter 24 args) w := enters Try.func24 (by kernel_rfl) rfl -- hailer/hailerref23.Has
theorem en25 : ∀ args w, (callFunc 25 args).run Try.prog w = .ok (.enter 25 args) w := enters Try.func25 (by kernel_rfl) rfl -- hailer/roster.Place
theorem en26 : ∀ args w, (callFunc 26 args).run Try.prog w = .ok (.enter 26 args) w := enters Try.func26 (by kernel_rfl) rfl -- hailer/hailerref23.Place
theorem en27 : ∀ args w, (callFunc 27 args).run Try.prog w = .ok (.enter 27 args) w := enters Try.func27 (by kernel_rfl) rfl -- hailer/hailerlaw23.works
theorem en28 : ∀ args w, (callFunc 28 args).run Try.prog w = .ok (.enter 28 args) w := enters Try.func28 (by kernel_rfl) rfl -- hailer/hailerlaw23.dev
theorem en29 : ∀ args w, (callFunc 29 args).run Try.prog w = .ok (.enter 29 args) w := enters Try.func29 (by kernel_rfl) rfl -- hailer/roster.next
theorem en30 : ∀ args w, (callFunc 30 args).run Try.prog w = .ok (.enter 30 args) w := enters Try.func30 (by kernel_rfl) rfl -- hailer/roster.With$1
theorem en31 : ∀ args w, (callFunc 31 args).run Try.prog w = .ok (.enter 31 args) w := enters Try.func31 (by kernel_rfl) rfl -- slices.BinarySearchFunc[[]hailer/api.Dev,hailer/api.Dev,hailer/api.Dev]
theorem en32 : ∀ args w, (callFunc 32 args).run Try.prog w = .ok (.enter 32 args) w := enters Try.func32 (by kernel_rfl) rfl -- hailer/roster.order
theorem en33 : ∀ args w, (callFunc 33 args).run Try.prog w = .ok (.enter 33 args) w := enters Try.func33 (by kernel_rfl) rfl -- slices.Insert[[]hailer/api.Dev,hailer/api.Dev]
theorem en34 : ∀ args w, (callFunc 34 args).run Try.prog w = .ok (.enter 34 args) w := enters Try.func34 (by kernel_rfl) rfl -- hailer/roster.Without$1
theorem en35 : ∀ args w, (callFunc 35 args).run Try.prog w = .ok (.enter 35 args) w := enters Try.func35 (by kernel_rfl) rfl -- slices.Delete[[]hailer/api.Dev,hailer/api.Dev]
theorem en36 : ∀ args w, (callFunc 36 args).run Try.prog w = .ok (.enter 36 args) w := enters Try.func36 (by kernel_rfl) rfl -- hailer/hailerref23.small
theorem en37 : ∀ args w, (callFunc 37 args).run Try.prog w = .ok (.enter 37 args) w := enters Try.func37 (by kernel_rfl) rfl -- hailer/hailerref23.Set
theorem en38 : ∀ args w, (callFunc 38 args).run Try.prog w = .ok (.enter 38 args) w := enters Try.func38 (by kernel_rfl) rfl -- hailer/hailerref23.List
theorem en39 : ∀ args w, (callFunc 39 args).run Try.prog w = .ok (.enter 39 args) w := enters Try.func39 (by kernel_rfl) rfl -- hailer/roster.small
theorem en40 : ∀ args w, (callFunc 40 args).run Try.prog w = .ok (.enter 40 args) w := enters Try.func40 (by kernel_rfl) rfl -- hailer/roster.some
theorem en41 : ∀ args w, (callFunc 41 args).run Try.prog w = .ok (.enter 41 args) w := enters Try.func41 (by kernel_rfl) rfl -- hailer/roster.Came
theorem en42 : ∀ args w, (callFunc 42 args).run Try.prog w = .ok (.enter 42 args) w := enters Try.func42 (by kernel_rfl) rfl -- hailer/wire.NewOut
theorem en43 : ∀ args w, (callFunc 43 args).run Try.prog w = .ok (.enter 43 args) w := enters Try.func43 (by kernel_rfl) rfl -- (*hailer/wire.Out).Fixed
theorem en44 : ∀ args w, (callFunc 44 args).run Try.prog w = .ok (.enter 44 args) w := enters Try.func44 (by kernel_rfl) rfl -- (*hailer/wire.Out).U64
theorem en45 : ∀ args w, (callFunc 45 args).run Try.prog w = .ok (.enter 45 args) w := enters Try.func45 (by kernel_rfl) rfl -- hailer/wire.PutList[hailer/api.Dev]
theorem en46 : ∀ args w, (callFunc 46 args).run Try.prog w = .ok (.enter 46 args) w := enters Try.func46 (by kernel_rfl) rfl -- hailer/roster.Digest$1
theorem en47 : ∀ args w, (callFunc 47 args).run Try.prog w = .ok (.enter 47 args) w := enters Try.func47 (by kernel_rfl) rfl -- (*hailer/wire.Out).U8
theorem en48 : ∀ args w, (callFunc 48 args).run Try.prog w = .ok (.enter 48 args) w := enters Try.func48 (by kernel_rfl) rfl -- (*hailer/wire.Out).Bytes
theorem en49 : ∀ args w, (callFunc 49 args).run Try.prog w = .ok (.enter 49 args) w := enters Try.func49 (by kernel_rfl) rfl -- hailer/sha.Sum256
theorem en50 : ∀ args w, (callFunc 50 args).run Try.prog w = .ok (.enter 50 args) w := enters Try.func50 (by kernel_rfl) rfl -- hailer/hailerref23.group
theorem en51 : ∀ args w, (callFunc 51 args).run Try.prog w = .ok (.enter 51 args) w := enters Try.func51 (by kernel_rfl) rfl -- hailer/hailerref01.Sum
theorem en52 : ∀ args w, (callFunc 52 args).run Try.prog w = .ok (.enter 52 args) w := enters Try.func52 (by kernel_rfl) rfl -- slices.Contains[[]hailer/api.Dev,hailer/api.Dev]
theorem en53 : ∀ args w, (callFunc 53 args).run Try.prog w = .ok (.enter 53 args) w := enters Try.func53 (by kernel_rfl) rfl -- cmp.Or[int]
theorem en54 : ∀ args w, (callFunc 54 args).run Try.prog w = .ok (.enter 54 args) w := enters Try.func54 (by kernel_rfl) rfl -- cmp.Compare[uint8]
theorem en56 : ∀ args w, (callFunc 56 args).run Try.prog w = .ok (.enter 56 args) w := enters Try.func56 (by kernel_rfl) rfl -- slices.rotateRight[hailer/api.Dev]
theorem en57 : ∀ args w, (callFunc 57 args).run Try.prog w = .ok (.enter 57 args) w := enters Try.func57 (by kernel_rfl) rfl -- slices.ContainsFunc[[]hailer/api.Dev,hailer/api.Dev]
theorem en58 : ∀ args w, (callFunc 58 args).run Try.prog w = .ok (.enter 58 args) w := enters Try.func58 (by kernel_rfl) rfl -- hailer/roster.small$1
theorem en59 : ∀ args w, (callFunc 59 args).run Try.prog w = .ok (.enter 59 args) w := enters Try.func59 (by kernel_rfl) rfl -- hailer/roster.Came$1
theorem en60 : ∀ args w, (callFunc 60 args).run Try.prog w = .ok (.enter 60 args) w := enters Try.func60 (by kernel_rfl) rfl -- (*hailer/wire.Out).put
theorem en61 : ∀ args w, (callFunc 61 args).run Try.prog w = .ok (.enter 61 args) w := enters Try.func61 (by kernel_rfl) rfl -- hailer/wire.number[uint64]
theorem en62 : ∀ args w, (callFunc 62 args).run Try.prog w = .ok (.enter 62 args) w := enters Try.func62 (by kernel_rfl) rfl -- (*hailer/wire.Out).many
theorem en63 : ∀ args w, (callFunc 63 args).run Try.prog w = .ok (.enter 63 args) w := enters Try.func63 (by kernel_rfl) rfl -- hailer/sha.narrow
theorem en64 : ∀ args w, (callFunc 64 args).run Try.prog w = .ok (.enter 64 args) w := enters Try.func64 (by kernel_rfl) rfl -- (*hailer/sha.machine[uint32]).sum
theorem en65 : ∀ args w, (callFunc 65 args).run Try.prog w = .ok (.enter 65 args) w := enters Try.func65 (by kernel_rfl) rfl -- hailer/hailerref01.First
theorem en66 : ∀ args w, (callFunc 66 args).run Try.prog w = .ok (.enter 66 args) w := enters Try.func66 (by kernel_rfl) rfl -- hailer/hailerref01.Constants
theorem en67 : ∀ args w, (callFunc 67 args).run Try.prog w = .ok (.enter 67 args) w := enters Try.func67 (by kernel_rfl) rfl -- hailer/hailerref01.power
theorem en68 : ∀ args w, (callFunc 68 args).run Try.prog w = .ok (.enter 68 args) w := enters Try.func68 (by kernel_rfl) rfl -- hailer/hailerref01.padded
theorem en69 : ∀ args w, (callFunc 69 args).run Try.prog w = .ok (.enter 69 args) w := enters Try.func69 (by kernel_rfl) rfl -- hailer/hailerref01.cut
theorem en70 : ∀ args w, (callFunc 70 args).run Try.prog w = .ok (.enter 70 args) w := enters Try.func70 (by kernel_rfl) rfl -- hailer/hailerref01.four
theorem en71 : ∀ args w, (callFunc 71 args).run Try.prog w = .ok (.enter 71 args) w := enters Try.func71 (by kernel_rfl) rfl -- hailer/hailerref01.round
theorem en72 : ∀ args w, (callFunc 72 args).run Try.prog w = .ok (.enter 72 args) w := enters Try.func72 (by kernel_rfl) rfl -- slices.Index[[]hailer/api.Dev,hailer/api.Dev]
theorem en73 : ∀ args w, (callFunc 73 args).run Try.prog w = .ok (.enter 73 args) w := enters Try.func73 (by kernel_rfl) rfl -- cmp.isNaN[uint8]
theorem en74 : ∀ args w, (callFunc 74 args).run Try.prog w = .ok (.enter 74 args) w := enters Try.func74 (by kernel_rfl) rfl -- slices.rotateLeft[hailer/api.Dev]
theorem en75 : ∀ args w, (callFunc 75 args).run Try.prog w = .ok (.enter 75 args) w := enters Try.func75 (by kernel_rfl) rfl -- slices.IndexFunc[[]hailer/api.Dev,hailer/api.Dev]
theorem en76 : ∀ args w, (callFunc 76 args).run Try.prog w = .ok (.enter 76 args) w := enters Try.func76 (by kernel_rfl) rfl -- hailer/wire.number[uint16]
theorem en77 : ∀ args w, (callFunc 77 args).run Try.prog w = .ok (.enter 77 args) w := enters Try.func77 (by kernel_rfl) rfl -- hailer/sha.upper
theorem en78 : ∀ args w, (callFunc 78 args).run Try.prog w = .ok (.enter 78 args) w := enters Try.func78 (by kernel_rfl) rfl -- hailer/sha.first
theorem en79 : ∀ args w, (callFunc 79 args).run Try.prog w = .ok (.enter 79 args) w := enters Try.func79 (by kernel_rfl) rfl -- hailer/sha.constants
theorem en80 : ∀ args w, (callFunc 80 args).run Try.prog w = .ok (.enter 80 args) w := enters Try.func80 (by kernel_rfl) rfl -- (*hailer/sha.machine[uint32]).block
theorem en81 : ∀ args w, (callFunc 81 args).run Try.prog w = .ok (.enter 81 args) w := enters Try.func81 (by kernel_rfl) rfl -- hailer/hailerref01.mix
theorem en82 : ∀ args w, (callFunc 82 args).run Try.prog w = .ok (.enter 82 args) w := enters Try.func82 (by kernel_rfl) rfl -- slices.Reverse[[]hailer/api.Dev,hailer/api.Dev]
theorem en83 : ∀ args w, (callFunc 83 args).run Try.prog w = .ok (.enter 83 args) w := enters Try.func83 (by kernel_rfl) rfl -- (*hailer/sha.machine[uint32]).small
theorem en84 : ∀ args w, (callFunc 84 args).run Try.prog w = .ok (.enter 84 args) w := enters Try.func84 (by kernel_rfl) rfl -- (*hailer/sha.machine[uint32]).big
theorem en85 : ∀ args w, (callFunc 85 args).run Try.prog w = .ok (.enter 85 args) w := enters Try.func85 (by kernel_rfl) rfl -- hailer/hailerref01.turn
theorem en86 : ∀ args w, (callFunc 86 args).run Try.prog w = .ok (.enter 86 args) w := enters Try.func86 (by kernel_rfl) rfl -- (*hailer/sha.machine[uint32]).turn
end Go.Proofs.Ytfdnnlcfolgegaa
