/- Facts on the types and functions of the program, each closed. -/
import Derived.Test.YtfobhdmhjjafcaaGreatDoorRRProg
import Derived.Test.YtfobhdmhjjafcaaGreatDoorRRLibW
namespace Go.Proofs.YtfobhdmhjjafcaaGreatDoorRR
open Go Go.RowKit
theorem mixed : Tryz.prog.follows .mixedOrders = true := by kernel_rfl
theorem on1 : isOne Tryz.prog 1 = true := by kernel_rfl
theorem sz1 : (Tryz.prog.info? 1).map (·.size) = some 1 := by kernel_rfl
theorem zr1 : (Tryz.prog.info? 1).map (·.zero) = some (some (.nilFunc : Value)) := by kernel_rfl
theorem zs1 : (Tryz.prog.info? 1).map (fun i => (i.zero, i.size)) = some (some (.nilFunc : Value), 1) := by kernel_rfl
theorem un2 : Tryz.prog.underlying 2 = some (.int .i64) := Tryz.underlying2
theorem on2 : isOne Tryz.prog 2 = true := by kernel_rfl
theorem sz2 : (Tryz.prog.info? 2).map (·.size) = some 1 := by kernel_rfl
theorem zr2 : (Tryz.prog.info? 2).map (·.zero) = some (some (.int .i64 0 : Value)) := by kernel_rfl
theorem zs2 : (Tryz.prog.info? 2).map (fun i => (i.zero, i.size)) = some (some (.int .i64 0 : Value), 1) := by kernel_rfl
theorem un3 : Tryz.prog.underlying 3 = some (.int .i64) := Tryz.underlying3
theorem on3 : isOne Tryz.prog 3 = true := by kernel_rfl
theorem sz3 : (Tryz.prog.info? 3).map (·.size) = some 1 := by kernel_rfl
theorem zr3 : (Tryz.prog.info? 3).map (·.zero) = some (some (.int .i64 0 : Value)) := by kernel_rfl
theorem zs3 : (Tryz.prog.info? 3).map (fun i => (i.zero, i.size)) = some (some (.int .i64 0 : Value), 1) := by kernel_rfl
theorem un4 : Tryz.prog.underlying 4 = some (.bool) := Tryz.underlying4
theorem on4 : isOne Tryz.prog 4 = true := by kernel_rfl
theorem sz4 : (Tryz.prog.info? 4).map (·.size) = some 1 := by kernel_rfl
theorem zr4 : (Tryz.prog.info? 4).map (·.zero) = some (some (.bool false : Value)) := by kernel_rfl
theorem zs4 : (Tryz.prog.info? 4).map (fun i => (i.zero, i.size)) = some (some (.bool false : Value), 1) := by kernel_rfl
theorem un5 : Tryz.prog.underlying 5 = some (.int .u8) := Tryz.underlying5
theorem on5 : isOne Tryz.prog 5 = true := by kernel_rfl
theorem sz5 : (Tryz.prog.info? 5).map (·.size) = some 1 := by kernel_rfl
theorem zr5 : (Tryz.prog.info? 5).map (·.zero) = some (some (.int .u8 0 : Value)) := by kernel_rfl
theorem zs5 : (Tryz.prog.info? 5).map (fun i => (i.zero, i.size)) = some (some (.int .u8 0 : Value), 1) := by kernel_rfl
theorem un6 : Tryz.prog.underlying 6 = some (.int .u8) := Tryz.underlying6
theorem on6 : isOne Tryz.prog 6 = true := by kernel_rfl
theorem sz6 : (Tryz.prog.info? 6).map (·.size) = some 1 := by kernel_rfl
theorem zr6 : (Tryz.prog.info? 6).map (·.zero) = some (some (.int .u8 0 : Value)) := by kernel_rfl
theorem zs6 : (Tryz.prog.info? 6).map (fun i => (i.zero, i.size)) = some (some (.int .u8 0 : Value), 1) := by kernel_rfl
theorem ag7 : aggB Tryz.prog 7 4 = true := by kernel_rfl
theorem sz7 : (Tryz.prog.info? 7).map (·.size) = some 4 := by kernel_rfl
theorem fo7_0 : fieldOff Tryz.prog 7 0 = some 0 := by kernel_rfl
theorem fo7_1 : fieldOff Tryz.prog 7 1 = some 1 := by kernel_rfl
theorem fo7_2 : fieldOff Tryz.prog 7 2 = some 2 := by kernel_rfl
theorem fo7_3 : fieldOff Tryz.prog 7 3 = some 3 := by kernel_rfl
theorem zr7 : (Tryz.prog.info? 7).map (·.zero) = some (some (.agg #[.int .i64 0, .int .i64 0, .bool false, .int .u8 0] : Value)) := by kernel_rfl
theorem zs7 : (Tryz.prog.info? 7).map (fun i => (i.zero, i.size)) = some (some (.agg #[.int .i64 0, .int .i64 0, .bool false, .int .u8 0] : Value), 4) := by kernel_rfl
theorem ag8 : aggB Tryz.prog 8 4 = true := by kernel_rfl
theorem sz8 : (Tryz.prog.info? 8).map (·.size) = some 4 := by kernel_rfl
theorem fo8_0 : fieldOff Tryz.prog 8 0 = some 0 := by kernel_rfl
theorem fo8_1 : fieldOff Tryz.prog 8 1 = some 1 := by kernel_rfl
theorem fo8_2 : fieldOff Tryz.prog 8 2 = some 2 := by kernel_rfl
theorem fo8_3 : fieldOff Tryz.prog 8 3 = some 3 := by kernel_rfl
theorem zr8 : (Tryz.prog.info? 8).map (·.zero) = some (some (.agg #[.int .i64 0, .int .i64 0, .bool false, .int .u8 0] : Value)) := by kernel_rfl
theorem zs8 : (Tryz.prog.info? 8).map (fun i => (i.zero, i.size)) = some (some (.agg #[.int .i64 0, .int .i64 0, .bool false, .int .u8 0] : Value), 4) := by kernel_rfl
theorem un9 : Tryz.prog.underlying 9 = some (.string) := Tryz.underlying9
theorem on9 : isOne Tryz.prog 9 = true := by kernel_rfl
theorem sz9 : (Tryz.prog.info? 9).map (·.size) = some 1 := by kernel_rfl
theorem zr9 : (Tryz.prog.info? 9).map (·.zero) = some (some (.string ByteArray.empty : Value)) := by kernel_rfl
theorem zs9 : (Tryz.prog.info? 9).map (fun i => (i.zero, i.size)) = some (some (.string ByteArray.empty : Value), 1) := by kernel_rfl
theorem un10 : Tryz.prog.underlying 10 = some (.string) := Tryz.underlying10
theorem on10 : isOne Tryz.prog 10 = true := by kernel_rfl
theorem sz10 : (Tryz.prog.info? 10).map (·.size) = some 1 := by kernel_rfl
theorem zr10 : (Tryz.prog.info? 10).map (·.zero) = some (some (.string ByteArray.empty : Value)) := by kernel_rfl
theorem zs10 : (Tryz.prog.info? 10).map (fun i => (i.zero, i.size)) = some (some (.string ByteArray.empty : Value), 1) := by kernel_rfl
theorem un11 : Tryz.prog.underlying 11 = some (.string) := Tryz.underlying11
theorem on11 : isOne Tryz.prog 11 = true := by kernel_rfl
theorem sz11 : (Tryz.prog.info? 11).map (·.size) = some 1 := by kernel_rfl
theorem zr11 : (Tryz.prog.info? 11).map (·.zero) = some (some (.string ByteArray.empty : Value)) := by kernel_rfl
theorem zs11 : (Tryz.prog.info? 11).map (fun i => (i.zero, i.size)) = some (some (.string ByteArray.empty : Value), 1) := by kernel_rfl
theorem un12 : Tryz.prog.underlying 12 = some (.int .u64) := Tryz.underlying12
theorem on12 : isOne Tryz.prog 12 = true := by kernel_rfl
theorem sz12 : (Tryz.prog.info? 12).map (·.size) = some 1 := by kernel_rfl
theorem zr12 : (Tryz.prog.info? 12).map (·.zero) = some (some (.int .u64 0 : Value)) := by kernel_rfl
theorem zs12 : (Tryz.prog.info? 12).map (fun i => (i.zero, i.size)) = some (some (.int .u64 0 : Value), 1) := by kernel_rfl
theorem ag13 : aggB Tryz.prog 13 2 = true := by kernel_rfl
theorem sz13 : (Tryz.prog.info? 13).map (·.size) = some 2 := by kernel_rfl
theorem fo13_0 : fieldOff Tryz.prog 13 0 = some 0 := by kernel_rfl
theorem fo13_1 : fieldOff Tryz.prog 13 1 = some 1 := by kernel_rfl
theorem zr13 : (Tryz.prog.info? 13).map (·.zero) = some (some (.agg #[.string ByteArray.empty, .int .u64 0] : Value)) := by kernel_rfl
theorem zs13 : (Tryz.prog.info? 13).map (fun i => (i.zero, i.size)) = some (some (.agg #[.string ByteArray.empty, .int .u64 0] : Value), 2) := by kernel_rfl
theorem ag14 : aggB Tryz.prog 14 2 = true := by kernel_rfl
theorem sz14 : (Tryz.prog.info? 14).map (·.size) = some 2 := by kernel_rfl
theorem fo14_0 : fieldOff Tryz.prog 14 0 = some 0 := by kernel_rfl
theorem fo14_1 : fieldOff Tryz.prog 14 1 = some 1 := by kernel_rfl
theorem zr14 : (Tryz.prog.info? 14).map (·.zero) = some (some (.agg #[.string ByteArray.empty, .int .u64 0] : Value)) := by kernel_rfl
theorem zs14 : (Tryz.prog.info? 14).map (fun i => (i.zero, i.size)) = some (some (.agg #[.string ByteArray.empty, .int .u64 0] : Value), 2) := by kernel_rfl
theorem un15 : Tryz.prog.underlying 15 = some (.pointer 195) := Tryz.underlying15
theorem on15 : isOne Tryz.prog 15 = true := by kernel_rfl
theorem sz15 : (Tryz.prog.info? 15).map (·.size) = some 1 := by kernel_rfl
theorem zr15 : (Tryz.prog.info? 15).map (·.zero) = some (some (.pointer none : Value)) := by kernel_rfl
theorem zs15 : (Tryz.prog.info? 15).map (fun i => (i.zero, i.size)) = some (some (.pointer none : Value), 1) := by kernel_rfl
theorem un16 : Tryz.prog.underlying 16 = some (.pointer 198) := Tryz.underlying16
theorem on16 : isOne Tryz.prog 16 = true := by kernel_rfl
theorem sz16 : (Tryz.prog.info? 16).map (·.size) = some 1 := by kernel_rfl
theorem zr16 : (Tryz.prog.info? 16).map (·.zero) = some (some (.pointer none : Value)) := by kernel_rfl
theorem zs16 : (Tryz.prog.info? 16).map (fun i => (i.zero, i.size)) = some (some (.pointer none : Value), 1) := by kernel_rfl
theorem un17 : Tryz.prog.underlying 17 = some (.pointer 206) := Tryz.underlying17
theorem on17 : isOne Tryz.prog 17 = true := by kernel_rfl
theorem sz17 : (Tryz.prog.info? 17).map (·.size) = some 1 := by kernel_rfl
theorem zr17 : (Tryz.prog.info? 17).map (·.zero) = some (some (.pointer none : Value)) := by kernel_rfl
theorem zs17 : (Tryz.prog.info? 17).map (fun i => (i.zero, i.size)) = some (some (.pointer none : Value), 1) := by kernel_rfl
theorem ag18 : aggB Tryz.prog 18 1 = true := by kernel_rfl
theorem sz18 : (Tryz.prog.info? 18).map (·.size) = some 1 := by kernel_rfl
theorem fo18_0 : fieldOff Tryz.prog 18 0 = some 0 := by kernel_rfl
theorem zr18 : (Tryz.prog.info? 18).map (·.zero) = some (some (.agg #[.pointer none] : Value)) := by kernel_rfl
theorem zs18 : (Tryz.prog.info? 18).map (fun i => (i.zero, i.size)) = some (some (.agg #[.pointer none] : Value), 1) := by kernel_rfl
theorem ag19 : aggB Tryz.prog 19 1 = true := by kernel_rfl
theorem sz19 : (Tryz.prog.info? 19).map (·.size) = some 1 := by kernel_rfl
theorem fo19_0 : fieldOff Tryz.prog 19 0 = some 0 := by kernel_rfl
theorem zr19 : (Tryz.prog.info? 19).map (·.zero) = some (some (.agg #[.pointer none] : Value)) := by kernel_rfl
theorem zs19 : (Tryz.prog.info? 19).map (fun i => (i.zero, i.size)) = some (some (.agg #[.pointer none] : Value), 1) := by kernel_rfl
theorem un21 : Tryz.prog.underlying 21 = some (.int .i32) := Tryz.underlying21
theorem on21 : isOne Tryz.prog 21 = true := by kernel_rfl
theorem sz21 : (Tryz.prog.info? 21).map (·.size) = some 1 := by kernel_rfl
theorem zr21 : (Tryz.prog.info? 21).map (·.zero) = some (some (.int .i32 0 : Value)) := by kernel_rfl
theorem zs21 : (Tryz.prog.info? 21).map (fun i => (i.zero, i.size)) = some (some (.int .i32 0 : Value), 1) := by kernel_rfl
theorem un22 : Tryz.prog.underlying 22 = some (.slice 30) := Tryz.underlying22
theorem on22 : isOne Tryz.prog 22 = true := by kernel_rfl
theorem sz22 : (Tryz.prog.info? 22).map (·.size) = some 1 := by kernel_rfl
theorem zr22 : (Tryz.prog.info? 22).map (·.zero) = some (some (.slice none 0 0 : Value)) := by kernel_rfl
theorem zs22 : (Tryz.prog.info? 22).map (fun i => (i.zero, i.size)) = some (some (.slice none 0 0 : Value), 1) := by kernel_rfl
theorem on23 : isOne Tryz.prog 23 = true := by kernel_rfl
theorem sz23 : (Tryz.prog.info? 23).map (·.size) = some 1 := by kernel_rfl
theorem zr23 : (Tryz.prog.info? 23).map (·.zero) = some (some (.nilFunc : Value)) := by kernel_rfl
theorem zs23 : (Tryz.prog.info? 23).map (fun i => (i.zero, i.size)) = some (some (.nilFunc : Value), 1) := by kernel_rfl
theorem on24 : isOne Tryz.prog 24 = true := by kernel_rfl
theorem sz24 : (Tryz.prog.info? 24).map (·.size) = some 1 := by kernel_rfl
theorem zr24 : (Tryz.prog.info? 24).map (·.zero) = some (some (.nilFunc : Value)) := by kernel_rfl
theorem zs24 : (Tryz.prog.info? 24).map (fun i => (i.zero, i.size)) = some (some (.nilFunc : Value), 1) := by kernel_rfl
theorem on25 : isOne Tryz.prog 25 = true := by kernel_rfl
theorem sz25 : (Tryz.prog.info? 25).map (·.size) = some 1 := by kernel_rfl
theorem zr25 : (Tryz.prog.info? 25).map (·.zero) = some (some (.nilFunc : Value)) := by kernel_rfl
theorem zs25 : (Tryz.prog.info? 25).map (fun i => (i.zero, i.size)) = some (some (.nilFunc : Value), 1) := by kernel_rfl
theorem on26 : isOne Tryz.prog 26 = true := by kernel_rfl
theorem sz26 : (Tryz.prog.info? 26).map (·.size) = some 1 := by kernel_rfl
theorem zr26 : (Tryz.prog.info? 26).map (·.zero) = some (some (.nilFunc : Value)) := by kernel_rfl
theorem zs26 : (Tryz.prog.info? 26).map (fun i => (i.zero, i.size)) = some (some (.nilFunc : Value), 1) := by kernel_rfl
theorem on27 : isOne Tryz.prog 27 = true := by kernel_rfl
theorem sz27 : (Tryz.prog.info? 27).map (·.size) = some 1 := by kernel_rfl
theorem zr27 : (Tryz.prog.info? 27).map (·.zero) = some (some (.nilFunc : Value)) := by kernel_rfl
theorem zs27 : (Tryz.prog.info? 27).map (fun i => (i.zero, i.size)) = some (some (.nilFunc : Value), 1) := by kernel_rfl
theorem on28 : isOne Tryz.prog 28 = true := by kernel_rfl
theorem sz28 : (Tryz.prog.info? 28).map (·.size) = some 1 := by kernel_rfl
theorem zr28 : (Tryz.prog.info? 28).map (·.zero) = some (some (.nilFunc : Value)) := by kernel_rfl
theorem zs28 : (Tryz.prog.info? 28).map (fun i => (i.zero, i.size)) = some (some (.nilFunc : Value), 1) := by kernel_rfl
theorem un29 : Tryz.prog.underlying 29 = some (.array 32 5) := Tryz.underlying29
theorem ag29 : aggB Tryz.prog 29 32 = true := by kernel_rfl
theorem sz29 : (Tryz.prog.info? 29).map (·.size) = some 32 := by kernel_rfl
theorem zr29 : (Tryz.prog.info? 29).map (·.zero) = some (some (.agg #[.int .u8 0, .int .u8 0, .int .u8 0, .int .u8 0, .int .u8 0, .int .u8 0, .int .u8 0, .int .u8 0, .int .u8 0, .int .u8 0, .int .u8 0, .int .u8 0, .int .u8 0, .int .u8 0, .int .u8 0, .int .u8 0, .int .u8 0, .int .u8 0, .int .u8 0, .int .u8 0, .int .u8 0, .int .u8 0, .int .u8 0, .int .u8 0, .int .u8 0, .int .u8 0, .int .u8 0, .int .u8 0, .int .u8 0, .int .u8 0, .int .u8 0, .int .u8 0] : Value)) := by kernel_rfl
theorem zs29 : (Tryz.prog.info? 29).map (fun i => (i.zero, i.size)) = some (some (.agg #[.int .u8 0, .int .u8 0, .int .u8 0, .int .u8 0, .int .u8 0, .int .u8 0, .int .u8 0, .int .u8 0, .int .u8 0, .int .u8 0, .int .u8 0, .int .u8 0, .int .u8 0, .int .u8 0, .int .u8 0, .int .u8 0, .int .u8 0, .int .u8 0, .int .u8 0, .int .u8 0, .int .u8 0, .int .u8 0, .int .u8 0, .int .u8 0, .int .u8 0, .int .u8 0, .int .u8 0, .int .u8 0, .int .u8 0, .int .u8 0, .int .u8 0, .int .u8 0] : Value), 32) := by kernel_rfl
theorem un30 : Tryz.prog.underlying 30 = some (.array 32 5) := Tryz.underlying30
theorem ag30 : aggB Tryz.prog 30 32 = true := by kernel_rfl
theorem sz30 : (Tryz.prog.info? 30).map (·.size) = some 32 := by kernel_rfl
theorem zr30 : (Tryz.prog.info? 30).map (·.zero) = some (some (.agg #[.int .u8 0, .int .u8 0, .int .u8 0, .int .u8 0, .int .u8 0, .int .u8 0, .int .u8 0, .int .u8 0, .int .u8 0, .int .u8 0, .int .u8 0, .int .u8 0, .int .u8 0, .int .u8 0, .int .u8 0, .int .u8 0, .int .u8 0, .int .u8 0, .int .u8 0, .int .u8 0, .int .u8 0, .int .u8 0, .int .u8 0, .int .u8 0, .int .u8 0, .int .u8 0, .int .u8 0, .int .u8 0, .int .u8 0, .int .u8 0, .int .u8 0, .int .u8 0] : Value)) := by kernel_rfl
theorem zs30 : (Tryz.prog.info? 30).map (fun i => (i.zero, i.size)) = some (some (.agg #[.int .u8 0, .int .u8 0, .int .u8 0, .int .u8 0, .int .u8 0, .int .u8 0, .int .u8 0, .int .u8 0, .int .u8 0, .int .u8 0, .int .u8 0, .int .u8 0, .int .u8 0, .int .u8 0, .int .u8 0, .int .u8 0, .int .u8 0, .int .u8 0, .int .u8 0, .int .u8 0, .int .u8 0, .int .u8 0, .int .u8 0, .int .u8 0, .int .u8 0, .int .u8 0, .int .u8 0, .int .u8 0, .int .u8 0, .int .u8 0, .int .u8 0, .int .u8 0] : Value), 32) := by kernel_rfl
theorem sz31 : (Tryz.prog.info? 31).map (·.size) = some 0 := by kernel_rfl
theorem zr31 : (Tryz.prog.info? 31).map (·.zero) = some (some (.agg #[] : Value)) := by kernel_rfl
theorem zs31 : (Tryz.prog.info? 31).map (fun i => (i.zero, i.size)) = some (some (.agg #[] : Value), 0) := by kernel_rfl
theorem un32 : Tryz.prog.underlying 32 = some (.map 30 31) := Tryz.underlying32
theorem on32 : isOne Tryz.prog 32 = true := by kernel_rfl
theorem sz32 : (Tryz.prog.info? 32).map (·.size) = some 1 := by kernel_rfl
theorem zr32 : (Tryz.prog.info? 32).map (·.zero) = some (some (.map none : Value)) := by kernel_rfl
theorem zs32 : (Tryz.prog.info? 32).map (fun i => (i.zero, i.size)) = some (some (.map none : Value), 1) := by kernel_rfl
theorem un33 : Tryz.prog.underlying 33 = some (.pointer 82) := Tryz.underlying33
theorem on33 : isOne Tryz.prog 33 = true := by kernel_rfl
theorem sz33 : (Tryz.prog.info? 33).map (·.size) = some 1 := by kernel_rfl
theorem zr33 : (Tryz.prog.info? 33).map (·.zero) = some (some (.pointer none : Value)) := by kernel_rfl
theorem zs33 : (Tryz.prog.info? 33).map (fun i => (i.zero, i.size)) = some (some (.pointer none : Value), 1) := by kernel_rfl
theorem un34 : Tryz.prog.underlying 34 = some (.int .i64) := Tryz.underlying34
theorem on34 : isOne Tryz.prog 34 = true := by kernel_rfl
theorem sz34 : (Tryz.prog.info? 34).map (·.size) = some 1 := by kernel_rfl
theorem zr34 : (Tryz.prog.info? 34).map (·.zero) = some (some (.int .i64 0 : Value)) := by kernel_rfl
theorem zs34 : (Tryz.prog.info? 34).map (fun i => (i.zero, i.size)) = some (some (.int .i64 0 : Value), 1) := by kernel_rfl
theorem on36 : isOne Tryz.prog 36 = true := by kernel_rfl
theorem sz36 : (Tryz.prog.info? 36).map (·.size) = some 1 := by kernel_rfl
theorem zr36 : (Tryz.prog.info? 36).map (·.zero) = some (some (.nilFunc : Value)) := by kernel_rfl
theorem zs36 : (Tryz.prog.info? 36).map (fun i => (i.zero, i.size)) = some (some (.nilFunc : Value), 1) := by kernel_rfl
theorem on38 : isOne Tryz.prog 38 = true := by kernel_rfl
theorem sz38 : (Tryz.prog.info? 38).map (·.size) = some 1 := by kernel_rfl
theorem zr38 : (Tryz.prog.info? 38).map (·.zero) = some (some (.nilFunc : Value)) := by kernel_rfl
theorem zs38 : (Tryz.prog.info? 38).map (fun i => (i.zero, i.size)) = some (some (.nilFunc : Value), 1) := by kernel_rfl
theorem ag39 : aggB Tryz.prog 39 2 = true := by kernel_rfl
theorem sz39 : (Tryz.prog.info? 39).map (·.size) = some 2 := by kernel_rfl
theorem fo39_0 : fieldOff Tryz.prog 39 0 = some 0 := by kernel_rfl
theorem fo39_1 : fieldOff Tryz.prog 39 1 = some 1 := by kernel_rfl
theorem zr39 : (Tryz.prog.info? 39).map (·.zero) = some (some (.agg #[.int .u8 0, .int .u8 0] : Value)) := by kernel_rfl
theorem zs39 : (Tryz.prog.info? 39).map (fun i => (i.zero, i.size)) = some (some (.agg #[.int .u8 0, .int .u8 0] : Value), 2) := by kernel_rfl
theorem ag40 : aggB Tryz.prog 40 2 = true := by kernel_rfl
theorem sz40 : (Tryz.prog.info? 40).map (·.size) = some 2 := by kernel_rfl
theorem fo40_0 : fieldOff Tryz.prog 40 0 = some 0 := by kernel_rfl
theorem fo40_1 : fieldOff Tryz.prog 40 1 = some 1 := by kernel_rfl
theorem zr40 : (Tryz.prog.info? 40).map (·.zero) = some (some (.agg #[.int .u8 0, .int .u8 0] : Value)) := by kernel_rfl
theorem zs40 : (Tryz.prog.info? 40).map (fun i => (i.zero, i.size)) = some (some (.agg #[.int .u8 0, .int .u8 0] : Value), 2) := by kernel_rfl
theorem on41 : isOne Tryz.prog 41 = true := by kernel_rfl
theorem sz41 : (Tryz.prog.info? 41).map (·.size) = some 1 := by kernel_rfl
theorem zr41 : (Tryz.prog.info? 41).map (·.zero) = some (some (.nilFunc : Value)) := by kernel_rfl
theorem zs41 : (Tryz.prog.info? 41).map (fun i => (i.zero, i.size)) = some (some (.nilFunc : Value), 1) := by kernel_rfl
theorem on43 : isOne Tryz.prog 43 = true := by kernel_rfl
theorem sz43 : (Tryz.prog.info? 43).map (·.size) = some 1 := by kernel_rfl
theorem zr43 : (Tryz.prog.info? 43).map (·.zero) = some (some (.nilFunc : Value)) := by kernel_rfl
theorem zs43 : (Tryz.prog.info? 43).map (fun i => (i.zero, i.size)) = some (some (.nilFunc : Value), 1) := by kernel_rfl
theorem on44 : isOne Tryz.prog 44 = true := by kernel_rfl
theorem sz44 : (Tryz.prog.info? 44).map (·.size) = some 1 := by kernel_rfl
theorem zr44 : (Tryz.prog.info? 44).map (·.zero) = some (some (.nilFunc : Value)) := by kernel_rfl
theorem zs44 : (Tryz.prog.info? 44).map (fun i => (i.zero, i.size)) = some (some (.nilFunc : Value), 1) := by kernel_rfl
theorem on45 : isOne Tryz.prog 45 = true := by kernel_rfl
theorem sz45 : (Tryz.prog.info? 45).map (·.size) = some 1 := by kernel_rfl
theorem zr45 : (Tryz.prog.info? 45).map (·.zero) = some (some (.nilFunc : Value)) := by kernel_rfl
theorem zs45 : (Tryz.prog.info? 45).map (fun i => (i.zero, i.size)) = some (some (.nilFunc : Value), 1) := by kernel_rfl
theorem on46 : isOne Tryz.prog 46 = true := by kernel_rfl
theorem sz46 : (Tryz.prog.info? 46).map (·.size) = some 1 := by kernel_rfl
theorem zr46 : (Tryz.prog.info? 46).map (·.zero) = some (some (.nilFunc : Value)) := by kernel_rfl
theorem zs46 : (Tryz.prog.info? 46).map (fun i => (i.zero, i.size)) = some (some (.nilFunc : Value), 1) := by kernel_rfl
theorem un47 : Tryz.prog.underlying 47 = some (.slice 50) := Tryz.underlying47
theorem on47 : isOne Tryz.prog 47 = true := by kernel_rfl
theorem sz47 : (Tryz.prog.info? 47).map (·.size) = some 1 := by kernel_rfl
theorem zr47 : (Tryz.prog.info? 47).map (·.zero) = some (some (.slice none 0 0 : Value)) := by kernel_rfl
theorem zs47 : (Tryz.prog.info? 47).map (fun i => (i.zero, i.size)) = some (some (.slice none 0 0 : Value), 1) := by kernel_rfl
theorem on48 : isOne Tryz.prog 48 = true := by kernel_rfl
theorem sz48 : (Tryz.prog.info? 48).map (·.size) = some 1 := by kernel_rfl
theorem zr48 : (Tryz.prog.info? 48).map (·.zero) = some (some (.nilFunc : Value)) := by kernel_rfl
theorem zs48 : (Tryz.prog.info? 48).map (fun i => (i.zero, i.size)) = some (some (.nilFunc : Value), 1) := by kernel_rfl
theorem ag49 : aggB Tryz.prog 49 36 = true := by kernel_rfl
theorem sz49 : (Tryz.prog.info? 49).map (·.size) = some 36 := by kernel_rfl
theorem fo49_0 : fieldOff Tryz.prog 49 0 = some 0 := by kernel_rfl
theorem fo49_1 : fieldOff Tryz.prog 49 1 = some 1 := by kernel_rfl
theorem fo49_2 : fieldOff Tryz.prog 49 2 = some 3 := by kernel_rfl
theorem fo49_3 : fieldOff Tryz.prog 49 3 = some 35 := by kernel_rfl
theorem zr49 : (Tryz.prog.info? 49).map (·.zero) = some (some (.agg #[.int .u8 0, .int .u8 0, .int .u8 0, .int .u8 0, .int .u8 0, .int .u8 0, .int .u8 0, .int .u8 0, .int .u8 0, .int .u8 0, .int .u8 0, .int .u8 0, .int .u8 0, .int .u8 0, .int .u8 0, .int .u8 0, .int .u8 0, .int .u8 0, .int .u8 0, .int .u8 0, .int .u8 0, .int .u8 0, .int .u8 0, .int .u8 0, .int .u8 0, .int .u8 0, .int .u8 0, .int .u8 0, .int .u8 0, .int .u8 0, .int .u8 0, .int .u8 0, .int .u8 0, .int .u8 0, .int .u8 0, .string ByteArray.empty] : Value)) := by kernel_rfl
theorem zs49 : (Tryz.prog.info? 49).map (fun i => (i.zero, i.size)) = some (some (.agg #[.int .u8 0, .int .u8 0, .int .u8 0, .int .u8 0, .int .u8 0, .int .u8 0, .int .u8 0, .int .u8 0, .int .u8 0, .int .u8 0, .int .u8 0, .int .u8 0, .int .u8 0, .int .u8 0, .int .u8 0, .int .u8 0, .int .u8 0, .int .u8 0, .int .u8 0, .int .u8 0, .int .u8 0, .int .u8 0, .int .u8 0, .int .u8 0, .int .u8 0, .int .u8 0, .int .u8 0, .int .u8 0, .int .u8 0, .int .u8 0, .int .u8 0, .int .u8 0, .int .u8 0, .int .u8 0, .int .u8 0, .string ByteArray.empty] : Value), 36) := by kernel_rfl
theorem ag50 : aggB Tryz.prog 50 36 = true := by kernel_rfl
theorem sz50 : (Tryz.prog.info? 50).map (·.size) = some 36 := by kernel_rfl
theorem fo50_0 : fieldOff Tryz.prog 50 0 = some 0 := by kernel_rfl
theorem fo50_1 : fieldOff Tryz.prog 50 1 = some 1 := by kernel_rfl
theorem fo50_2 : fieldOff Tryz.prog 50 2 = some 3 := by kernel_rfl
theorem fo50_3 : fieldOff Tryz.prog 50 3 = some 35 := by kernel_rfl
theorem zr50 : (Tryz.prog.info? 50).map (·.zero) = some (some (.agg #[.int .u8 0, .int .u8 0, .int .u8 0, .int .u8 0, .int .u8 0, .int .u8 0, .int .u8 0, .int .u8 0, .int .u8 0, .int .u8 0, .int .u8 0, .int .u8 0, .int .u8 0, .int .u8 0, .int .u8 0, .int .u8 0, .int .u8 0, .int .u8 0, .int .u8 0, .int .u8 0, .int .u8 0, .int .u8 0, .int .u8 0, .int .u8 0, .int .u8 0, .int .u8 0, .int .u8 0, .int .u8 0, .int .u8 0, .int .u8 0, .int .u8 0, .int .u8 0, .int .u8 0, .int .u8 0, .int .u8 0, .string ByteArray.empty] : Value)) := by kernel_rfl
theorem zs50 : (Tryz.prog.info? 50).map (fun i => (i.zero, i.size)) = some (some (.agg #[.int .u8 0, .int .u8 0, .int .u8 0, .int .u8 0, .int .u8 0, .int .u8 0, .int .u8 0, .int .u8 0, .int .u8 0, .int .u8 0, .int .u8 0, .int .u8 0, .int .u8 0, .int .u8 0, .int .u8 0, .int .u8 0, .int .u8 0, .int .u8 0, .int .u8 0, .int .u8 0, .int .u8 0, .int .u8 0, .int .u8 0, .int .u8 0, .int .u8 0, .int .u8 0, .int .u8 0, .int .u8 0, .int .u8 0, .int .u8 0, .int .u8 0, .int .u8 0, .int .u8 0, .int .u8 0, .int .u8 0, .string ByteArray.empty] : Value), 36) := by kernel_rfl
theorem on51 : isOne Tryz.prog 51 = true := by kernel_rfl
theorem sz51 : (Tryz.prog.info? 51).map (·.size) = some 1 := by kernel_rfl
theorem zr51 : (Tryz.prog.info? 51).map (·.zero) = some (some (.nilFunc : Value)) := by kernel_rfl
theorem zs51 : (Tryz.prog.info? 51).map (fun i => (i.zero, i.size)) = some (some (.nilFunc : Value), 1) := by kernel_rfl
theorem on52 : isOne Tryz.prog 52 = true := by kernel_rfl
theorem sz52 : (Tryz.prog.info? 52).map (·.size) = some 1 := by kernel_rfl
theorem zr52 : (Tryz.prog.info? 52).map (·.zero) = some (some (.nilFunc : Value)) := by kernel_rfl
theorem zs52 : (Tryz.prog.info? 52).map (fun i => (i.zero, i.size)) = some (some (.nilFunc : Value), 1) := by kernel_rfl
theorem on53 : isOne Tryz.prog 53 = true := by kernel_rfl
theorem sz53 : (Tryz.prog.info? 53).map (·.size) = some 1 := by kernel_rfl
theorem zr53 : (Tryz.prog.info? 53).map (·.zero) = some (some (.nilFunc : Value)) := by kernel_rfl
theorem zs53 : (Tryz.prog.info? 53).map (fun i => (i.zero, i.size)) = some (some (.nilFunc : Value), 1) := by kernel_rfl
theorem on54 : isOne Tryz.prog 54 = true := by kernel_rfl
theorem sz54 : (Tryz.prog.info? 54).map (·.size) = some 1 := by kernel_rfl
theorem zr54 : (Tryz.prog.info? 54).map (·.zero) = some (some (.nilFunc : Value)) := by kernel_rfl
theorem zs54 : (Tryz.prog.info? 54).map (fun i => (i.zero, i.size)) = some (some (.nilFunc : Value), 1) := by kernel_rfl
theorem on55 : isOne Tryz.prog 55 = true := by kernel_rfl
theorem sz55 : (Tryz.prog.info? 55).map (·.size) = some 1 := by kernel_rfl
theorem zr55 : (Tryz.prog.info? 55).map (·.zero) = some (some (.nilFunc : Value)) := by kernel_rfl
theorem zs55 : (Tryz.prog.info? 55).map (fun i => (i.zero, i.size)) = some (some (.nilFunc : Value), 1) := by kernel_rfl
theorem on56 : isOne Tryz.prog 56 = true := by kernel_rfl
theorem sz56 : (Tryz.prog.info? 56).map (·.size) = some 1 := by kernel_rfl
theorem zr56 : (Tryz.prog.info? 56).map (·.zero) = some (some (.nilFunc : Value)) := by kernel_rfl
theorem zs56 : (Tryz.prog.info? 56).map (fun i => (i.zero, i.size)) = some (some (.nilFunc : Value), 1) := by kernel_rfl
theorem on57 : isOne Tryz.prog 57 = true := by kernel_rfl
theorem sz57 : (Tryz.prog.info? 57).map (·.size) = some 1 := by kernel_rfl
theorem zr57 : (Tryz.prog.info? 57).map (·.zero) = some (some (.nilFunc : Value)) := by kernel_rfl
theorem zs57 : (Tryz.prog.info? 57).map (fun i => (i.zero, i.size)) = some (some (.nilFunc : Value), 1) := by kernel_rfl
theorem un58 : Tryz.prog.underlying 58 = some (.slice 5) := Tryz.underlying58
theorem on58 : isOne Tryz.prog 58 = true := by kernel_rfl
theorem sz58 : (Tryz.prog.info? 58).map (·.size) = some 1 := by kernel_rfl
theorem zr58 : (Tryz.prog.info? 58).map (·.zero) = some (some (.slice none 0 0 : Value)) := by kernel_rfl
theorem zs58 : (Tryz.prog.info? 58).map (fun i => (i.zero, i.size)) = some (some (.slice none 0 0 : Value), 1) := by kernel_rfl
theorem on59 : isOne Tryz.prog 59 = true := by kernel_rfl
theorem sz59 : (Tryz.prog.info? 59).map (·.size) = some 1 := by kernel_rfl
theorem zr59 : (Tryz.prog.info? 59).map (·.zero) = some (some (.nilFunc : Value)) := by kernel_rfl
theorem zs59 : (Tryz.prog.info? 59).map (fun i => (i.zero, i.size)) = some (some (.nilFunc : Value), 1) := by kernel_rfl
theorem on60 : isOne Tryz.prog 60 = true := by kernel_rfl
theorem sz60 : (Tryz.prog.info? 60).map (·.size) = some 1 := by kernel_rfl
theorem zr60 : (Tryz.prog.info? 60).map (·.zero) = some (some (.nilFunc : Value)) := by kernel_rfl
theorem zs60 : (Tryz.prog.info? 60).map (fun i => (i.zero, i.size)) = some (some (.nilFunc : Value), 1) := by kernel_rfl
theorem un61 : Tryz.prog.underlying 61 = some (.array 64 5) := Tryz.underlying61
theorem ag61 : aggB Tryz.prog 61 64 = true := by kernel_rfl
theorem sz61 : (Tryz.prog.info? 61).map (·.size) = some 64 := by kernel_rfl
theorem zr61 : (Tryz.prog.info? 61).map (·.zero) = some (some (.agg #[.int .u8 0, .int .u8 0, .int .u8 0, .int .u8 0, .int .u8 0, .int .u8 0, .int .u8 0, .int .u8 0, .int .u8 0, .int .u8 0, .int .u8 0, .int .u8 0, .int .u8 0, .int .u8 0, .int .u8 0, .int .u8 0, .int .u8 0, .int .u8 0, .int .u8 0, .int .u8 0, .int .u8 0, .int .u8 0, .int .u8 0, .int .u8 0, .int .u8 0, .int .u8 0, .int .u8 0, .int .u8 0, .int .u8 0, .int .u8 0, .int .u8 0, .int .u8 0, .int .u8 0, .int .u8 0, .int .u8 0, .int .u8 0, .int .u8 0, .int .u8 0, .int .u8 0, .int .u8 0, .int .u8 0, .int .u8 0, .int .u8 0, .int .u8 0, .int .u8 0, .int .u8 0, .int .u8 0, .int .u8 0, .int .u8 0, .int .u8 0, .int .u8 0, .int .u8 0, .int .u8 0, .int .u8 0, .int .u8 0, .int .u8 0, .int .u8 0, .int .u8 0, .int .u8 0, .int .u8 0, .int .u8 0, .int .u8 0, .int .u8 0, .int .u8 0] : Value)) := by kernel_rfl
theorem zs61 : (Tryz.prog.info? 61).map (fun i => (i.zero, i.size)) = some (some (.agg #[.int .u8 0, .int .u8 0, .int .u8 0, .int .u8 0, .int .u8 0, .int .u8 0, .int .u8 0, .int .u8 0, .int .u8 0, .int .u8 0, .int .u8 0, .int .u8 0, .int .u8 0, .int .u8 0, .int .u8 0, .int .u8 0, .int .u8 0, .int .u8 0, .int .u8 0, .int .u8 0, .int .u8 0, .int .u8 0, .int .u8 0, .int .u8 0, .int .u8 0, .int .u8 0, .int .u8 0, .int .u8 0, .int .u8 0, .int .u8 0, .int .u8 0, .int .u8 0, .int .u8 0, .int .u8 0, .int .u8 0, .int .u8 0, .int .u8 0, .int .u8 0, .int .u8 0, .int .u8 0, .int .u8 0, .int .u8 0, .int .u8 0, .int .u8 0, .int .u8 0, .int .u8 0, .int .u8 0, .int .u8 0, .int .u8 0, .int .u8 0, .int .u8 0, .int .u8 0, .int .u8 0, .int .u8 0, .int .u8 0, .int .u8 0, .int .u8 0, .int .u8 0, .int .u8 0, .int .u8 0, .int .u8 0, .int .u8 0, .int .u8 0, .int .u8 0] : Value), 64) := by kernel_rfl
theorem on62 : isOne Tryz.prog 62 = true := by kernel_rfl
theorem sz62 : (Tryz.prog.info? 62).map (·.size) = some 1 := by kernel_rfl
theorem zr62 : (Tryz.prog.info? 62).map (·.zero) = some (some (.nilFunc : Value)) := by kernel_rfl
theorem zs62 : (Tryz.prog.info? 62).map (fun i => (i.zero, i.size)) = some (some (.nilFunc : Value), 1) := by kernel_rfl
theorem un63 : Tryz.prog.underlying 63 = some (.pointer 65) := Tryz.underlying63
theorem on63 : isOne Tryz.prog 63 = true := by kernel_rfl
theorem sz63 : (Tryz.prog.info? 63).map (·.size) = some 1 := by kernel_rfl
theorem zr63 : (Tryz.prog.info? 63).map (·.zero) = some (some (.pointer none : Value)) := by kernel_rfl
theorem zs63 : (Tryz.prog.info? 63).map (fun i => (i.zero, i.size)) = some (some (.pointer none : Value), 1) := by kernel_rfl
theorem ag64 : aggB Tryz.prog 64 2 = true := by kernel_rfl
theorem sz64 : (Tryz.prog.info? 64).map (·.size) = some 2 := by kernel_rfl
theorem fo64_0 : fieldOff Tryz.prog 64 0 = some 0 := by kernel_rfl
theorem fo64_1 : fieldOff Tryz.prog 64 1 = some 1 := by kernel_rfl
theorem zr64 : (Tryz.prog.info? 64).map (·.zero) = some (some (.agg #[.pointer none, .slice none 0 0] : Value)) := by kernel_rfl
theorem zs64 : (Tryz.prog.info? 64).map (fun i => (i.zero, i.size)) = some (some (.agg #[.pointer none, .slice none 0 0] : Value), 2) := by kernel_rfl
theorem ag65 : aggB Tryz.prog 65 2 = true := by kernel_rfl
theorem sz65 : (Tryz.prog.info? 65).map (·.size) = some 2 := by kernel_rfl
theorem fo65_0 : fieldOff Tryz.prog 65 0 = some 0 := by kernel_rfl
theorem fo65_1 : fieldOff Tryz.prog 65 1 = some 1 := by kernel_rfl
theorem zr65 : (Tryz.prog.info? 65).map (·.zero) = some (some (.agg #[.pointer none, .slice none 0 0] : Value)) := by kernel_rfl
theorem zs65 : (Tryz.prog.info? 65).map (fun i => (i.zero, i.size)) = some (some (.agg #[.pointer none, .slice none 0 0] : Value), 2) := by kernel_rfl
theorem un66 : Tryz.prog.underlying 66 = some (.int .u64) := Tryz.underlying66
theorem on66 : isOne Tryz.prog 66 = true := by kernel_rfl
theorem sz66 : (Tryz.prog.info? 66).map (·.size) = some 1 := by kernel_rfl
theorem zr66 : (Tryz.prog.info? 66).map (·.zero) = some (some (.int .u64 0 : Value)) := by kernel_rfl
theorem zs66 : (Tryz.prog.info? 66).map (fun i => (i.zero, i.size)) = some (some (.int .u64 0 : Value), 1) := by kernel_rfl
theorem un67 : Tryz.prog.underlying 67 = some (.int .u64) := Tryz.underlying67
theorem on67 : isOne Tryz.prog 67 = true := by kernel_rfl
theorem sz67 : (Tryz.prog.info? 67).map (·.size) = some 1 := by kernel_rfl
theorem zr67 : (Tryz.prog.info? 67).map (·.zero) = some (some (.int .u64 0 : Value)) := by kernel_rfl
theorem zs67 : (Tryz.prog.info? 67).map (fun i => (i.zero, i.size)) = some (some (.int .u64 0 : Value), 1) := by kernel_rfl
theorem on70 : isOne Tryz.prog 70 = true := by kernel_rfl
theorem sz70 : (Tryz.prog.info? 70).map (·.size) = some 1 := by kernel_rfl
theorem zr70 : (Tryz.prog.info? 70).map (·.zero) = some (some (.nilFunc : Value)) := by kernel_rfl
theorem zs70 : (Tryz.prog.info? 70).map (fun i => (i.zero, i.size)) = some (some (.nilFunc : Value), 1) := by kernel_rfl
theorem on71 : isOne Tryz.prog 71 = true := by kernel_rfl
theorem sz71 : (Tryz.prog.info? 71).map (·.size) = some 1 := by kernel_rfl
theorem zr71 : (Tryz.prog.info? 71).map (·.zero) = some (some (.nilFunc : Value)) := by kernel_rfl
theorem zs71 : (Tryz.prog.info? 71).map (fun i => (i.zero, i.size)) = some (some (.nilFunc : Value), 1) := by kernel_rfl
theorem on72 : isOne Tryz.prog 72 = true := by kernel_rfl
theorem sz72 : (Tryz.prog.info? 72).map (·.size) = some 1 := by kernel_rfl
theorem zr72 : (Tryz.prog.info? 72).map (·.zero) = some (some (.nilFunc : Value)) := by kernel_rfl
theorem zs72 : (Tryz.prog.info? 72).map (fun i => (i.zero, i.size)) = some (some (.nilFunc : Value), 1) := by kernel_rfl
theorem on73 : isOne Tryz.prog 73 = true := by kernel_rfl
theorem sz73 : (Tryz.prog.info? 73).map (·.size) = some 1 := by kernel_rfl
theorem zr73 : (Tryz.prog.info? 73).map (·.zero) = some (some (.nilFunc : Value)) := by kernel_rfl
theorem zs73 : (Tryz.prog.info? 73).map (fun i => (i.zero, i.size)) = some (some (.nilFunc : Value), 1) := by kernel_rfl
theorem on74 : isOne Tryz.prog 74 = true := by kernel_rfl
theorem sz74 : (Tryz.prog.info? 74).map (·.size) = some 1 := by kernel_rfl
theorem zr74 : (Tryz.prog.info? 74).map (·.zero) = some (some (.nilFunc : Value)) := by kernel_rfl
theorem zs74 : (Tryz.prog.info? 74).map (fun i => (i.zero, i.size)) = some (some (.nilFunc : Value), 1) := by kernel_rfl
theorem un75 : Tryz.prog.underlying 75 = some (.slice 9) := Tryz.underlying75
theorem on75 : isOne Tryz.prog 75 = true := by kernel_rfl
theorem sz75 : (Tryz.prog.info? 75).map (·.size) = some 1 := by kernel_rfl
theorem zr75 : (Tryz.prog.info? 75).map (·.zero) = some (some (.slice none 0 0 : Value)) := by kernel_rfl
theorem zs75 : (Tryz.prog.info? 75).map (fun i => (i.zero, i.size)) = some (some (.slice none 0 0 : Value), 1) := by kernel_rfl
theorem on76 : isOne Tryz.prog 76 = true := by kernel_rfl
theorem sz76 : (Tryz.prog.info? 76).map (·.size) = some 1 := by kernel_rfl
theorem zr76 : (Tryz.prog.info? 76).map (·.zero) = some (some (.nilFunc : Value)) := by kernel_rfl
theorem zs76 : (Tryz.prog.info? 76).map (fun i => (i.zero, i.size)) = some (some (.nilFunc : Value), 1) := by kernel_rfl
theorem on77 : isOne Tryz.prog 77 = true := by kernel_rfl
theorem sz77 : (Tryz.prog.info? 77).map (·.size) = some 1 := by kernel_rfl
theorem zr77 : (Tryz.prog.info? 77).map (·.zero) = some (some (.nilFunc : Value)) := by kernel_rfl
theorem zs77 : (Tryz.prog.info? 77).map (fun i => (i.zero, i.size)) = some (some (.nilFunc : Value), 1) := by kernel_rfl
theorem on78 : isOne Tryz.prog 78 = true := by kernel_rfl
theorem sz78 : (Tryz.prog.info? 78).map (·.size) = some 1 := by kernel_rfl
theorem zr78 : (Tryz.prog.info? 78).map (·.zero) = some (some (.nilFunc : Value)) := by kernel_rfl
theorem zs78 : (Tryz.prog.info? 78).map (fun i => (i.zero, i.size)) = some (some (.nilFunc : Value), 1) := by kernel_rfl
theorem on79 : isOne Tryz.prog 79 = true := by kernel_rfl
theorem sz79 : (Tryz.prog.info? 79).map (·.size) = some 1 := by kernel_rfl
theorem zr79 : (Tryz.prog.info? 79).map (·.zero) = some (some (.nilFunc : Value)) := by kernel_rfl
theorem zs79 : (Tryz.prog.info? 79).map (fun i => (i.zero, i.size)) = some (some (.nilFunc : Value), 1) := by kernel_rfl
theorem un80 : Tryz.prog.underlying 80 = some (.map 5 83) := Tryz.underlying80
theorem on80 : isOne Tryz.prog 80 = true := by kernel_rfl
theorem sz80 : (Tryz.prog.info? 80).map (·.size) = some 1 := by kernel_rfl
theorem zr80 : (Tryz.prog.info? 80).map (·.zero) = some (some (.map none : Value)) := by kernel_rfl
theorem zs80 : (Tryz.prog.info? 80).map (fun i => (i.zero, i.size)) = some (some (.map none : Value), 1) := by kernel_rfl
theorem ag81 : aggB Tryz.prog 81 3 = true := by kernel_rfl
theorem sz81 : (Tryz.prog.info? 81).map (·.size) = some 3 := by kernel_rfl
theorem fo81_0 : fieldOff Tryz.prog 81 0 = some 0 := by kernel_rfl
theorem fo81_1 : fieldOff Tryz.prog 81 1 = some 1 := by kernel_rfl
theorem fo81_2 : fieldOff Tryz.prog 81 2 = some 2 := by kernel_rfl
theorem zr81 : (Tryz.prog.info? 81).map (·.zero) = some (some (.agg #[.int .u8 0, .slice none 0 0, .map none] : Value)) := by kernel_rfl
theorem zs81 : (Tryz.prog.info? 81).map (fun i => (i.zero, i.size)) = some (some (.agg #[.int .u8 0, .slice none 0 0, .map none] : Value), 3) := by kernel_rfl
theorem ag82 : aggB Tryz.prog 82 3 = true := by kernel_rfl
theorem sz82 : (Tryz.prog.info? 82).map (·.size) = some 3 := by kernel_rfl
theorem fo82_0 : fieldOff Tryz.prog 82 0 = some 0 := by kernel_rfl
theorem fo82_1 : fieldOff Tryz.prog 82 1 = some 1 := by kernel_rfl
theorem fo82_2 : fieldOff Tryz.prog 82 2 = some 2 := by kernel_rfl
theorem zr82 : (Tryz.prog.info? 82).map (·.zero) = some (some (.agg #[.int .u8 0, .slice none 0 0, .map none] : Value)) := by kernel_rfl
theorem zs82 : (Tryz.prog.info? 82).map (fun i => (i.zero, i.size)) = some (some (.agg #[.int .u8 0, .slice none 0 0, .map none] : Value), 3) := by kernel_rfl
theorem un83 : Tryz.prog.underlying 83 = some (.pointer 87) := Tryz.underlying83
theorem on83 : isOne Tryz.prog 83 = true := by kernel_rfl
theorem sz83 : (Tryz.prog.info? 83).map (·.size) = some 1 := by kernel_rfl
theorem zr83 : (Tryz.prog.info? 83).map (·.zero) = some (some (.pointer none : Value)) := by kernel_rfl
theorem zs83 : (Tryz.prog.info? 83).map (fun i => (i.zero, i.size)) = some (some (.pointer none : Value), 1) := by kernel_rfl
theorem un84 : Tryz.prog.underlying 84 = some (.array 4 30) := Tryz.underlying84
theorem ag84 : aggB Tryz.prog 84 128 = true := by kernel_rfl
theorem sz84 : (Tryz.prog.info? 84).map (·.size) = some 128 := by kernel_rfl
theorem zr84 : (Tryz.prog.info? 84).map (·.zero) = some (some (.agg #[.int .u8 0, .int .u8 0, .int .u8 0, .int .u8 0, .int .u8 0, .int .u8 0, .int .u8 0, .int .u8 0, .int .u8 0, .int .u8 0, .int .u8 0, .int .u8 0, .int .u8 0, .int .u8 0, .int .u8 0, .int .u8 0, .int .u8 0, .int .u8 0, .int .u8 0, .int .u8 0, .int .u8 0, .int .u8 0, .int .u8 0, .int .u8 0, .int .u8 0, .int .u8 0, .int .u8 0, .int .u8 0, .int .u8 0, .int .u8 0, .int .u8 0, .int .u8 0, .int .u8 0, .int .u8 0, .int .u8 0, .int .u8 0, .int .u8 0, .int .u8 0, .int .u8 0, .int .u8 0, .int .u8 0, .int .u8 0, .int .u8 0, .int .u8 0, .int .u8 0, .int .u8 0, .int .u8 0, .int .u8 0, .int .u8 0, .int .u8 0, .int .u8 0, .int .u8 0, .int .u8 0, .int .u8 0, .int .u8 0, .int .u8 0, .int .u8 0, .int .u8 0, .int .u8 0, .int .u8 0, .int .u8 0, .int .u8 0, .int .u8 0, .int .u8 0, .int .u8 0, .int .u8 0, .int .u8 0, .int .u8 0, .int .u8 0, .int .u8 0, .int .u8 0, .int .u8 0, .int .u8 0, .int .u8 0, .int .u8 0, .int .u8 0, .int .u8 0, .int .u8 0, .int .u8 0, .int .u8 0, .int .u8 0, .int .u8 0, .int .u8 0, .int .u8 0, .int .u8 0, .int .u8 0, .int .u8 0, .int .u8 0, .int .u8 0, .int .u8 0, .int .u8 0, .int .u8 0, .int .u8 0, .int .u8 0, .int .u8 0, .int .u8 0, .int .u8 0, .int .u8 0, .int .u8 0, .int .u8 0, .int .u8 0, .int .u8 0, .int .u8 0, .int .u8 0, .int .u8 0, .int .u8 0, .int .u8 0, .int .u8 0, .int .u8 0, .int .u8 0, .int .u8 0, .int .u8 0, .int .u8 0, .int .u8 0, .int .u8 0, .int .u8 0, .int .u8 0, .int .u8 0, .int .u8 0, .int .u8 0, .int .u8 0, .int .u8 0, .int .u8 0, .int .u8 0, .int .u8 0, .int .u8 0, .int .u8 0, .int .u8 0] : Value)) := by kernel_rfl
theorem zs84 : (Tryz.prog.info? 84).map (fun i => (i.zero, i.size)) = some (some (.agg #[.int .u8 0, .int .u8 0, .int .u8 0, .int .u8 0, .int .u8 0, .int .u8 0, .int .u8 0, .int .u8 0, .int .u8 0, .int .u8 0, .int .u8 0, .int .u8 0, .int .u8 0, .int .u8 0, .int .u8 0, .int .u8 0, .int .u8 0, .int .u8 0, .int .u8 0, .int .u8 0, .int .u8 0, .int .u8 0, .int .u8 0, .int .u8 0, .int .u8 0, .int .u8 0, .int .u8 0, .int .u8 0, .int .u8 0, .int .u8 0, .int .u8 0, .int .u8 0, .int .u8 0, .int .u8 0, .int .u8 0, .int .u8 0, .int .u8 0, .int .u8 0, .int .u8 0, .int .u8 0, .int .u8 0, .int .u8 0, .int .u8 0, .int .u8 0, .int .u8 0, .int .u8 0, .int .u8 0, .int .u8 0, .int .u8 0, .int .u8 0, .int .u8 0, .int .u8 0, .int .u8 0, .int .u8 0, .int .u8 0, .int .u8 0, .int .u8 0, .int .u8 0, .int .u8 0, .int .u8 0, .int .u8 0, .int .u8 0, .int .u8 0, .int .u8 0, .int .u8 0, .int .u8 0, .int .u8 0, .int .u8 0, .int .u8 0, .int .u8 0, .int .u8 0, .int .u8 0, .int .u8 0, .int .u8 0, .int .u8 0, .int .u8 0, .int .u8 0, .int .u8 0, .int .u8 0, .int .u8 0, .int .u8 0, .int .u8 0, .int .u8 0, .int .u8 0, .int .u8 0, .int .u8 0, .int .u8 0, .int .u8 0, .int .u8 0, .int .u8 0, .int .u8 0, .int .u8 0, .int .u8 0, .int .u8 0, .int .u8 0, .int .u8 0, .int .u8 0, .int .u8 0, .int .u8 0, .int .u8 0, .int .u8 0, .int .u8 0, .int .u8 0, .int .u8 0, .int .u8 0, .int .u8 0, .int .u8 0, .int .u8 0, .int .u8 0, .int .u8 0, .int .u8 0, .int .u8 0, .int .u8 0, .int .u8 0, .int .u8 0, .int .u8 0, .int .u8 0, .int .u8 0, .int .u8 0, .int .u8 0, .int .u8 0, .int .u8 0, .int .u8 0, .int .u8 0, .int .u8 0, .int .u8 0, .int .u8 0, .int .u8 0] : Value), 128) := by kernel_rfl
theorem un85 : Tryz.prog.underlying 85 = some (.array 4 4) := Tryz.underlying85
theorem ag85 : aggB Tryz.prog 85 4 = true := by kernel_rfl
theorem sz85 : (Tryz.prog.info? 85).map (·.size) = some 4 := by kernel_rfl
theorem zr85 : (Tryz.prog.info? 85).map (·.zero) = some (some (.agg #[.bool false, .bool false, .bool false, .bool false] : Value)) := by kernel_rfl
theorem zs85 : (Tryz.prog.info? 85).map (fun i => (i.zero, i.size)) = some (some (.agg #[.bool false, .bool false, .bool false, .bool false] : Value), 4) := by kernel_rfl
theorem ag86 : aggB Tryz.prog 86 133 = true := by kernel_rfl
theorem sz86 : (Tryz.prog.info? 86).map (·.size) = some 133 := by kernel_rfl
theorem fo86_0 : fieldOff Tryz.prog 86 0 = some 0 := by kernel_rfl
theorem fo86_1 : fieldOff Tryz.prog 86 1 = some 128 := by kernel_rfl
theorem fo86_2 : fieldOff Tryz.prog 86 2 = some 132 := by kernel_rfl
theorem zr86 : (Tryz.prog.info? 86).map (·.zero) = some (some (.agg #[.int .u8 0, .int .u8 0, .int .u8 0, .int .u8 0, .int .u8 0, .int .u8 0, .int .u8 0, .int .u8 0, .int .u8 0, .int .u8 0, .int .u8 0, .int .u8 0, .int .u8 0, .int .u8 0, .int .u8 0, .int .u8 0, .int .u8 0, .int .u8 0, .int .u8 0, .int .u8 0, .int .u8 0, .int .u8 0, .int .u8 0, .int .u8 0, .int .u8 0, .int .u8 0, .int .u8 0, .int .u8 0, .int .u8 0, .int .u8 0, .int .u8 0, .int .u8 0, .int .u8 0, .int .u8 0, .int .u8 0, .int .u8 0, .int .u8 0, .int .u8 0, .int .u8 0, .int .u8 0, .int .u8 0, .int .u8 0, .int .u8 0, .int .u8 0, .int .u8 0, .int .u8 0, .int .u8 0, .int .u8 0, .int .u8 0, .int .u8 0, .int .u8 0, .int .u8 0, .int .u8 0, .int .u8 0, .int .u8 0, .int .u8 0, .int .u8 0, .int .u8 0, .int .u8 0, .int .u8 0, .int .u8 0, .int .u8 0, .int .u8 0, .int .u8 0, .int .u8 0, .int .u8 0, .int .u8 0, .int .u8 0, .int .u8 0, .int .u8 0, .int .u8 0, .int .u8 0, .int .u8 0, .int .u8 0, .int .u8 0, .int .u8 0, .int .u8 0, .int .u8 0, .int .u8 0, .int .u8 0, .int .u8 0, .int .u8 0, .int .u8 0, .int .u8 0, .int .u8 0, .int .u8 0, .int .u8 0, .int .u8 0, .int .u8 0, .int .u8 0, .int .u8 0, .int .u8 0, .int .u8 0, .int .u8 0, .int .u8 0, .int .u8 0, .int .u8 0, .int .u8 0, .int .u8 0, .int .u8 0, .int .u8 0, .int .u8 0, .int .u8 0, .int .u8 0, .int .u8 0, .int .u8 0, .int .u8 0, .int .u8 0, .int .u8 0, .int .u8 0, .int .u8 0, .int .u8 0, .int .u8 0, .int .u8 0, .int .u8 0, .int .u8 0, .int .u8 0, .int .u8 0, .int .u8 0, .int .u8 0, .int .u8 0, .int .u8 0, .int .u8 0, .int .u8 0, .int .u8 0, .int .u8 0, .int .u8 0, .int .u8 0, .bool false, .bool false, .bool false, .bool false, .int .u8 0] : Value)) := by kernel_rfl
theorem zs86 : (Tryz.prog.info? 86).map (fun i => (i.zero, i.size)) = some (some (.agg #[.int .u8 0, .int .u8 0, .int .u8 0, .int .u8 0, .int .u8 0, .int .u8 0, .int .u8 0, .int .u8 0, .int .u8 0, .int .u8 0, .int .u8 0, .int .u8 0, .int .u8 0, .int .u8 0, .int .u8 0, .int .u8 0, .int .u8 0, .int .u8 0, .int .u8 0, .int .u8 0, .int .u8 0, .int .u8 0, .int .u8 0, .int .u8 0, .int .u8 0, .int .u8 0, .int .u8 0, .int .u8 0, .int .u8 0, .int .u8 0, .int .u8 0, .int .u8 0, .int .u8 0, .int .u8 0, .int .u8 0, .int .u8 0, .int .u8 0, .int .u8 0, .int .u8 0, .int .u8 0, .int .u8 0, .int .u8 0, .int .u8 0, .int .u8 0, .int .u8 0, .int .u8 0, .int .u8 0, .int .u8 0, .int .u8 0, .int .u8 0, .int .u8 0, .int .u8 0, .int .u8 0, .int .u8 0, .int .u8 0, .int .u8 0, .int .u8 0, .int .u8 0, .int .u8 0, .int .u8 0, .int .u8 0, .int .u8 0, .int .u8 0, .int .u8 0, .int .u8 0, .int .u8 0, .int .u8 0, .int .u8 0, .int .u8 0, .int .u8 0, .int .u8 0, .int .u8 0, .int .u8 0, .int .u8 0, .int .u8 0, .int .u8 0, .int .u8 0, .int .u8 0, .int .u8 0, .int .u8 0, .int .u8 0, .int .u8 0, .int .u8 0, .int .u8 0, .int .u8 0, .int .u8 0, .int .u8 0, .int .u8 0, .int .u8 0, .int .u8 0, .int .u8 0, .int .u8 0, .int .u8 0, .int .u8 0, .int .u8 0, .int .u8 0, .int .u8 0, .int .u8 0, .int .u8 0, .int .u8 0, .int .u8 0, .int .u8 0, .int .u8 0, .int .u8 0, .int .u8 0, .int .u8 0, .int .u8 0, .int .u8 0, .int .u8 0, .int .u8 0, .int .u8 0, .int .u8 0, .int .u8 0, .int .u8 0, .int .u8 0, .int .u8 0, .int .u8 0, .int .u8 0, .int .u8 0, .int .u8 0, .int .u8 0, .int .u8 0, .int .u8 0, .int .u8 0, .int .u8 0, .int .u8 0, .int .u8 0, .int .u8 0, .bool false, .bool false, .bool false, .bool false, .int .u8 0] : Value), 133) := by kernel_rfl
theorem ag87 : aggB Tryz.prog 87 133 = true := by kernel_rfl
theorem sz87 : (Tryz.prog.info? 87).map (·.size) = some 133 := by kernel_rfl
theorem fo87_0 : fieldOff Tryz.prog 87 0 = some 0 := by kernel_rfl
theorem fo87_1 : fieldOff Tryz.prog 87 1 = some 128 := by kernel_rfl
theorem fo87_2 : fieldOff Tryz.prog 87 2 = some 132 := by kernel_rfl
theorem zr87 : (Tryz.prog.info? 87).map (·.zero) = some (some (.agg #[.int .u8 0, .int .u8 0, .int .u8 0, .int .u8 0, .int .u8 0, .int .u8 0, .int .u8 0, .int .u8 0, .int .u8 0, .int .u8 0, .int .u8 0, .int .u8 0, .int .u8 0, .int .u8 0, .int .u8 0, .int .u8 0, .int .u8 0, .int .u8 0, .int .u8 0, .int .u8 0, .int .u8 0, .int .u8 0, .int .u8 0, .int .u8 0, .int .u8 0, .int .u8 0, .int .u8 0, .int .u8 0, .int .u8 0, .int .u8 0, .int .u8 0, .int .u8 0, .int .u8 0, .int .u8 0, .int .u8 0, .int .u8 0, .int .u8 0, .int .u8 0, .int .u8 0, .int .u8 0, .int .u8 0, .int .u8 0, .int .u8 0, .int .u8 0, .int .u8 0, .int .u8 0, .int .u8 0, .int .u8 0, .int .u8 0, .int .u8 0, .int .u8 0, .int .u8 0, .int .u8 0, .int .u8 0, .int .u8 0, .int .u8 0, .int .u8 0, .int .u8 0, .int .u8 0, .int .u8 0, .int .u8 0, .int .u8 0, .int .u8 0, .int .u8 0, .int .u8 0, .int .u8 0, .int .u8 0, .int .u8 0, .int .u8 0, .int .u8 0, .int .u8 0, .int .u8 0, .int .u8 0, .int .u8 0, .int .u8 0, .int .u8 0, .int .u8 0, .int .u8 0, .int .u8 0, .int .u8 0, .int .u8 0, .int .u8 0, .int .u8 0, .int .u8 0, .int .u8 0, .int .u8 0, .int .u8 0, .int .u8 0, .int .u8 0, .int .u8 0, .int .u8 0, .int .u8 0, .int .u8 0, .int .u8 0, .int .u8 0, .int .u8 0, .int .u8 0, .int .u8 0, .int .u8 0, .int .u8 0, .int .u8 0, .int .u8 0, .int .u8 0, .int .u8 0, .int .u8 0, .int .u8 0, .int .u8 0, .int .u8 0, .int .u8 0, .int .u8 0, .int .u8 0, .int .u8 0, .int .u8 0, .int .u8 0, .int .u8 0, .int .u8 0, .int .u8 0, .int .u8 0, .int .u8 0, .int .u8 0, .int .u8 0, .int .u8 0, .int .u8 0, .int .u8 0, .int .u8 0, .int .u8 0, .int .u8 0, .int .u8 0, .bool false, .bool false, .bool false, .bool false, .int .u8 0] : Value)) := by kernel_rfl
theorem zs87 : (Tryz.prog.info? 87).map (fun i => (i.zero, i.size)) = some (some (.agg #[.int .u8 0, .int .u8 0, .int .u8 0, .int .u8 0, .int .u8 0, .int .u8 0, .int .u8 0, .int .u8 0, .int .u8 0, .int .u8 0, .int .u8 0, .int .u8 0, .int .u8 0, .int .u8 0, .int .u8 0, .int .u8 0, .int .u8 0, .int .u8 0, .int .u8 0, .int .u8 0, .int .u8 0, .int .u8 0, .int .u8 0, .int .u8 0, .int .u8 0, .int .u8 0, .int .u8 0, .int .u8 0, .int .u8 0, .int .u8 0, .int .u8 0, .int .u8 0, .int .u8 0, .int .u8 0, .int .u8 0, .int .u8 0, .int .u8 0, .int .u8 0, .int .u8 0, .int .u8 0, .int .u8 0, .int .u8 0, .int .u8 0, .int .u8 0, .int .u8 0, .int .u8 0, .int .u8 0, .int .u8 0, .int .u8 0, .int .u8 0, .int .u8 0, .int .u8 0, .int .u8 0, .int .u8 0, .int .u8 0, .int .u8 0, .int .u8 0, .int .u8 0, .int .u8 0, .int .u8 0, .int .u8 0, .int .u8 0, .int .u8 0, .int .u8 0, .int .u8 0, .int .u8 0, .int .u8 0, .int .u8 0, .int .u8 0, .int .u8 0, .int .u8 0, .int .u8 0, .int .u8 0, .int .u8 0, .int .u8 0, .int .u8 0, .int .u8 0, .int .u8 0, .int .u8 0, .int .u8 0, .int .u8 0, .int .u8 0, .int .u8 0, .int .u8 0, .int .u8 0, .int .u8 0, .int .u8 0, .int .u8 0, .int .u8 0, .int .u8 0, .int .u8 0, .int .u8 0, .int .u8 0, .int .u8 0, .int .u8 0, .int .u8 0, .int .u8 0, .int .u8 0, .int .u8 0, .int .u8 0, .int .u8 0, .int .u8 0, .int .u8 0, .int .u8 0, .int .u8 0, .int .u8 0, .int .u8 0, .int .u8 0, .int .u8 0, .int .u8 0, .int .u8 0, .int .u8 0, .int .u8 0, .int .u8 0, .int .u8 0, .int .u8 0, .int .u8 0, .int .u8 0, .int .u8 0, .int .u8 0, .int .u8 0, .int .u8 0, .int .u8 0, .int .u8 0, .int .u8 0, .int .u8 0, .int .u8 0, .int .u8 0, .bool false, .bool false, .bool false, .bool false, .int .u8 0] : Value), 133) := by kernel_rfl
theorem on88 : isOne Tryz.prog 88 = true := by kernel_rfl
theorem sz88 : (Tryz.prog.info? 88).map (·.size) = some 1 := by kernel_rfl
theorem zr88 : (Tryz.prog.info? 88).map (·.zero) = some (some (.nilFunc : Value)) := by kernel_rfl
theorem zs88 : (Tryz.prog.info? 88).map (fun i => (i.zero, i.size)) = some (some (.nilFunc : Value), 1) := by kernel_rfl
theorem on89 : isOne Tryz.prog 89 = true := by kernel_rfl
theorem sz89 : (Tryz.prog.info? 89).map (·.size) = some 1 := by kernel_rfl
theorem zr89 : (Tryz.prog.info? 89).map (·.zero) = some (some (.nilFunc : Value)) := by kernel_rfl
theorem zs89 : (Tryz.prog.info? 89).map (fun i => (i.zero, i.size)) = some (some (.nilFunc : Value), 1) := by kernel_rfl
theorem on90 : isOne Tryz.prog 90 = true := by kernel_rfl
theorem sz90 : (Tryz.prog.info? 90).map (·.size) = some 1 := by kernel_rfl
theorem zr90 : (Tryz.prog.info? 90).map (·.zero) = some (some (.nilFunc : Value)) := by kernel_rfl
theorem zs90 : (Tryz.prog.info? 90).map (fun i => (i.zero, i.size)) = some (some (.nilFunc : Value), 1) := by kernel_rfl
theorem un91 : Tryz.prog.underlying 91 = some (.pointer 139) := Tryz.underlying91
theorem on91 : isOne Tryz.prog 91 = true := by kernel_rfl
theorem sz91 : (Tryz.prog.info? 91).map (·.size) = some 1 := by kernel_rfl
theorem zr91 : (Tryz.prog.info? 91).map (·.zero) = some (some (.pointer none : Value)) := by kernel_rfl
theorem zs91 : (Tryz.prog.info? 91).map (fun i => (i.zero, i.size)) = some (some (.pointer none : Value), 1) := by kernel_rfl
theorem on92 : isOne Tryz.prog 92 = true := by kernel_rfl
theorem sz92 : (Tryz.prog.info? 92).map (·.size) = some 1 := by kernel_rfl
theorem zr92 : (Tryz.prog.info? 92).map (·.zero) = some (some (.nilFunc : Value)) := by kernel_rfl
theorem zs92 : (Tryz.prog.info? 92).map (fun i => (i.zero, i.size)) = some (some (.nilFunc : Value), 1) := by kernel_rfl
theorem on93 : isOne Tryz.prog 93 = true := by kernel_rfl
theorem sz93 : (Tryz.prog.info? 93).map (·.size) = some 1 := by kernel_rfl
theorem zr93 : (Tryz.prog.info? 93).map (·.zero) = some (some (.nilFunc : Value)) := by kernel_rfl
theorem zs93 : (Tryz.prog.info? 93).map (fun i => (i.zero, i.size)) = some (some (.nilFunc : Value), 1) := by kernel_rfl
theorem on94 : isOne Tryz.prog 94 = true := by kernel_rfl
theorem sz94 : (Tryz.prog.info? 94).map (·.size) = some 1 := by kernel_rfl
theorem zr94 : (Tryz.prog.info? 94).map (·.zero) = some (some (.nilFunc : Value)) := by kernel_rfl
theorem zs94 : (Tryz.prog.info? 94).map (fun i => (i.zero, i.size)) = some (some (.nilFunc : Value), 1) := by kernel_rfl
theorem on95 : isOne Tryz.prog 95 = true := by kernel_rfl
theorem sz95 : (Tryz.prog.info? 95).map (·.size) = some 1 := by kernel_rfl
theorem zr95 : (Tryz.prog.info? 95).map (·.zero) = some (some (.nilFunc : Value)) := by kernel_rfl
theorem zs95 : (Tryz.prog.info? 95).map (fun i => (i.zero, i.size)) = some (some (.nilFunc : Value), 1) := by kernel_rfl
theorem un96 : Tryz.prog.underlying 96 = some (.slice 100) := Tryz.underlying96
theorem on96 : isOne Tryz.prog 96 = true := by kernel_rfl
theorem sz96 : (Tryz.prog.info? 96).map (·.size) = some 1 := by kernel_rfl
theorem zr96 : (Tryz.prog.info? 96).map (·.zero) = some (some (.slice none 0 0 : Value)) := by kernel_rfl
theorem zs96 : (Tryz.prog.info? 96).map (fun i => (i.zero, i.size)) = some (some (.slice none 0 0 : Value), 1) := by kernel_rfl
theorem on97 : isOne Tryz.prog 97 = true := by kernel_rfl
theorem sz97 : (Tryz.prog.info? 97).map (·.size) = some 1 := by kernel_rfl
theorem zr97 : (Tryz.prog.info? 97).map (·.zero) = some (some (.nilFunc : Value)) := by kernel_rfl
theorem zs97 : (Tryz.prog.info? 97).map (fun i => (i.zero, i.size)) = some (some (.nilFunc : Value), 1) := by kernel_rfl
theorem un98 : Tryz.prog.underlying 98 = some (.slice 103) := Tryz.underlying98
theorem on98 : isOne Tryz.prog 98 = true := by kernel_rfl
theorem sz98 : (Tryz.prog.info? 98).map (·.size) = some 1 := by kernel_rfl
theorem zr98 : (Tryz.prog.info? 98).map (·.zero) = some (some (.slice none 0 0 : Value)) := by kernel_rfl
theorem zs98 : (Tryz.prog.info? 98).map (fun i => (i.zero, i.size)) = some (some (.slice none 0 0 : Value), 1) := by kernel_rfl
theorem ag99 : aggB Tryz.prog 99 3 = true := by kernel_rfl
theorem sz99 : (Tryz.prog.info? 99).map (·.size) = some 3 := by kernel_rfl
theorem fo99_0 : fieldOff Tryz.prog 99 0 = some 0 := by kernel_rfl
theorem fo99_1 : fieldOff Tryz.prog 99 1 = some 1 := by kernel_rfl
theorem fo99_2 : fieldOff Tryz.prog 99 2 = some 2 := by kernel_rfl
theorem zr99 : (Tryz.prog.info? 99).map (·.zero) = some (some (.agg #[.int .u8 0, .int .u8 0, .slice none 0 0] : Value)) := by kernel_rfl
theorem zs99 : (Tryz.prog.info? 99).map (fun i => (i.zero, i.size)) = some (some (.agg #[.int .u8 0, .int .u8 0, .slice none 0 0] : Value), 3) := by kernel_rfl
theorem ag100 : aggB Tryz.prog 100 3 = true := by kernel_rfl
theorem sz100 : (Tryz.prog.info? 100).map (·.size) = some 3 := by kernel_rfl
theorem fo100_0 : fieldOff Tryz.prog 100 0 = some 0 := by kernel_rfl
theorem fo100_1 : fieldOff Tryz.prog 100 1 = some 1 := by kernel_rfl
theorem fo100_2 : fieldOff Tryz.prog 100 2 = some 2 := by kernel_rfl
theorem zr100 : (Tryz.prog.info? 100).map (·.zero) = some (some (.agg #[.int .u8 0, .int .u8 0, .slice none 0 0] : Value)) := by kernel_rfl
theorem zs100 : (Tryz.prog.info? 100).map (fun i => (i.zero, i.size)) = some (some (.agg #[.int .u8 0, .int .u8 0, .slice none 0 0] : Value), 3) := by kernel_rfl
theorem on101 : isOne Tryz.prog 101 = true := by kernel_rfl
theorem sz101 : (Tryz.prog.info? 101).map (·.size) = some 1 := by kernel_rfl
theorem zr101 : (Tryz.prog.info? 101).map (·.zero) = some (some (.nilFunc : Value)) := by kernel_rfl
theorem zs101 : (Tryz.prog.info? 101).map (fun i => (i.zero, i.size)) = some (some (.nilFunc : Value), 1) := by kernel_rfl
theorem ag102 : aggB Tryz.prog 102 33 = true := by kernel_rfl
theorem sz102 : (Tryz.prog.info? 102).map (·.size) = some 33 := by kernel_rfl
theorem fo102_0 : fieldOff Tryz.prog 102 0 = some 0 := by kernel_rfl
theorem fo102_1 : fieldOff Tryz.prog 102 1 = some 1 := by kernel_rfl
theorem zr102 : (Tryz.prog.info? 102).map (·.zero) = some (some (.agg #[.int .u8 0, .int .u8 0, .int .u8 0, .int .u8 0, .int .u8 0, .int .u8 0, .int .u8 0, .int .u8 0, .int .u8 0, .int .u8 0, .int .u8 0, .int .u8 0, .int .u8 0, .int .u8 0, .int .u8 0, .int .u8 0, .int .u8 0, .int .u8 0, .int .u8 0, .int .u8 0, .int .u8 0, .int .u8 0, .int .u8 0, .int .u8 0, .int .u8 0, .int .u8 0, .int .u8 0, .int .u8 0, .int .u8 0, .int .u8 0, .int .u8 0, .int .u8 0, .int .u8 0] : Value)) := by kernel_rfl
theorem zs102 : (Tryz.prog.info? 102).map (fun i => (i.zero, i.size)) = some (some (.agg #[.int .u8 0, .int .u8 0, .int .u8 0, .int .u8 0, .int .u8 0, .int .u8 0, .int .u8 0, .int .u8 0, .int .u8 0, .int .u8 0, .int .u8 0, .int .u8 0, .int .u8 0, .int .u8 0, .int .u8 0, .int .u8 0, .int .u8 0, .int .u8 0, .int .u8 0, .int .u8 0, .int .u8 0, .int .u8 0, .int .u8 0, .int .u8 0, .int .u8 0, .int .u8 0, .int .u8 0, .int .u8 0, .int .u8 0, .int .u8 0, .int .u8 0, .int .u8 0, .int .u8 0] : Value), 33) := by kernel_rfl
theorem ag103 : aggB Tryz.prog 103 33 = true := by kernel_rfl
theorem sz103 : (Tryz.prog.info? 103).map (·.size) = some 33 := by kernel_rfl
theorem fo103_0 : fieldOff Tryz.prog 103 0 = some 0 := by kernel_rfl
theorem fo103_1 : fieldOff Tryz.prog 103 1 = some 1 := by kernel_rfl
theorem zr103 : (Tryz.prog.info? 103).map (·.zero) = some (some (.agg #[.int .u8 0, .int .u8 0, .int .u8 0, .int .u8 0, .int .u8 0, .int .u8 0, .int .u8 0, .int .u8 0, .int .u8 0, .int .u8 0, .int .u8 0, .int .u8 0, .int .u8 0, .int .u8 0, .int .u8 0, .int .u8 0, .int .u8 0, .int .u8 0, .int .u8 0, .int .u8 0, .int .u8 0, .int .u8 0, .int .u8 0, .int .u8 0, .int .u8 0, .int .u8 0, .int .u8 0, .int .u8 0, .int .u8 0, .int .u8 0, .int .u8 0, .int .u8 0, .int .u8 0] : Value)) := by kernel_rfl
theorem zs103 : (Tryz.prog.info? 103).map (fun i => (i.zero, i.size)) = some (some (.agg #[.int .u8 0, .int .u8 0, .int .u8 0, .int .u8 0, .int .u8 0, .int .u8 0, .int .u8 0, .int .u8 0, .int .u8 0, .int .u8 0, .int .u8 0, .int .u8 0, .int .u8 0, .int .u8 0, .int .u8 0, .int .u8 0, .int .u8 0, .int .u8 0, .int .u8 0, .int .u8 0, .int .u8 0, .int .u8 0, .int .u8 0, .int .u8 0, .int .u8 0, .int .u8 0, .int .u8 0, .int .u8 0, .int .u8 0, .int .u8 0, .int .u8 0, .int .u8 0, .int .u8 0] : Value), 33) := by kernel_rfl
theorem on104 : isOne Tryz.prog 104 = true := by kernel_rfl
theorem sz104 : (Tryz.prog.info? 104).map (·.size) = some 1 := by kernel_rfl
theorem zr104 : (Tryz.prog.info? 104).map (·.zero) = some (some (.nilFunc : Value)) := by kernel_rfl
theorem zs104 : (Tryz.prog.info? 104).map (fun i => (i.zero, i.size)) = some (some (.nilFunc : Value), 1) := by kernel_rfl
theorem on105 : isOne Tryz.prog 105 = true := by kernel_rfl
theorem sz105 : (Tryz.prog.info? 105).map (·.size) = some 1 := by kernel_rfl
theorem zr105 : (Tryz.prog.info? 105).map (·.zero) = some (some (.nilFunc : Value)) := by kernel_rfl
theorem zs105 : (Tryz.prog.info? 105).map (fun i => (i.zero, i.size)) = some (some (.nilFunc : Value), 1) := by kernel_rfl
theorem on106 : isOne Tryz.prog 106 = true := by kernel_rfl
theorem sz106 : (Tryz.prog.info? 106).map (·.size) = some 1 := by kernel_rfl
theorem zr106 : (Tryz.prog.info? 106).map (·.zero) = some (some (.nilFunc : Value)) := by kernel_rfl
theorem zs106 : (Tryz.prog.info? 106).map (fun i => (i.zero, i.size)) = some (some (.nilFunc : Value), 1) := by kernel_rfl
theorem on107 : isOne Tryz.prog 107 = true := by kernel_rfl
theorem sz107 : (Tryz.prog.info? 107).map (·.size) = some 1 := by kernel_rfl
theorem zr107 : (Tryz.prog.info? 107).map (·.zero) = some (some (.nilFunc : Value)) := by kernel_rfl
theorem zs107 : (Tryz.prog.info? 107).map (fun i => (i.zero, i.size)) = some (some (.nilFunc : Value), 1) := by kernel_rfl
theorem un108 : Tryz.prog.underlying 108 = some (.pointer 143) := Tryz.underlying108
theorem on108 : isOne Tryz.prog 108 = true := by kernel_rfl
theorem sz108 : (Tryz.prog.info? 108).map (·.size) = some 1 := by kernel_rfl
theorem zr108 : (Tryz.prog.info? 108).map (·.zero) = some (some (.pointer none : Value)) := by kernel_rfl
theorem zs108 : (Tryz.prog.info? 108).map (fun i => (i.zero, i.size)) = some (some (.pointer none : Value), 1) := by kernel_rfl
theorem on109 : isOne Tryz.prog 109 = true := by kernel_rfl
theorem sz109 : (Tryz.prog.info? 109).map (·.size) = some 1 := by kernel_rfl
theorem zr109 : (Tryz.prog.info? 109).map (·.zero) = some (some (.nilFunc : Value)) := by kernel_rfl
theorem zs109 : (Tryz.prog.info? 109).map (fun i => (i.zero, i.size)) = some (some (.nilFunc : Value), 1) := by kernel_rfl
theorem on110 : isOne Tryz.prog 110 = true := by kernel_rfl
theorem sz110 : (Tryz.prog.info? 110).map (·.size) = some 1 := by kernel_rfl
theorem zr110 : (Tryz.prog.info? 110).map (·.zero) = some (some (.nilFunc : Value)) := by kernel_rfl
theorem zs110 : (Tryz.prog.info? 110).map (fun i => (i.zero, i.size)) = some (some (.nilFunc : Value), 1) := by kernel_rfl
theorem on111 : isOne Tryz.prog 111 = true := by kernel_rfl
theorem sz111 : (Tryz.prog.info? 111).map (·.size) = some 1 := by kernel_rfl
theorem zr111 : (Tryz.prog.info? 111).map (·.zero) = some (some (.nilFunc : Value)) := by kernel_rfl
theorem zs111 : (Tryz.prog.info? 111).map (fun i => (i.zero, i.size)) = some (some (.nilFunc : Value), 1) := by kernel_rfl
theorem on112 : isOne Tryz.prog 112 = true := by kernel_rfl
theorem sz112 : (Tryz.prog.info? 112).map (·.size) = some 1 := by kernel_rfl
theorem zr112 : (Tryz.prog.info? 112).map (·.zero) = some (some (.nilFunc : Value)) := by kernel_rfl
theorem zs112 : (Tryz.prog.info? 112).map (fun i => (i.zero, i.size)) = some (some (.nilFunc : Value), 1) := by kernel_rfl
theorem on113 : isOne Tryz.prog 113 = true := by kernel_rfl
theorem sz113 : (Tryz.prog.info? 113).map (·.size) = some 1 := by kernel_rfl
theorem zr113 : (Tryz.prog.info? 113).map (·.zero) = some (some (.nilFunc : Value)) := by kernel_rfl
theorem zs113 : (Tryz.prog.info? 113).map (fun i => (i.zero, i.size)) = some (some (.nilFunc : Value), 1) := by kernel_rfl
theorem on114 : isOne Tryz.prog 114 = true := by kernel_rfl
theorem sz114 : (Tryz.prog.info? 114).map (·.size) = some 1 := by kernel_rfl
theorem zr114 : (Tryz.prog.info? 114).map (·.zero) = some (some (.nilFunc : Value)) := by kernel_rfl
theorem zs114 : (Tryz.prog.info? 114).map (fun i => (i.zero, i.size)) = some (some (.nilFunc : Value), 1) := by kernel_rfl
theorem on115 : isOne Tryz.prog 115 = true := by kernel_rfl
theorem sz115 : (Tryz.prog.info? 115).map (·.size) = some 1 := by kernel_rfl
theorem zr115 : (Tryz.prog.info? 115).map (·.zero) = some (some (.nilFunc : Value)) := by kernel_rfl
theorem zs115 : (Tryz.prog.info? 115).map (fun i => (i.zero, i.size)) = some (some (.nilFunc : Value), 1) := by kernel_rfl
theorem on116 : isOne Tryz.prog 116 = true := by kernel_rfl
theorem sz116 : (Tryz.prog.info? 116).map (·.size) = some 1 := by kernel_rfl
theorem zr116 : (Tryz.prog.info? 116).map (·.zero) = some (some (.nilFunc : Value)) := by kernel_rfl
theorem zs116 : (Tryz.prog.info? 116).map (fun i => (i.zero, i.size)) = some (some (.nilFunc : Value), 1) := by kernel_rfl
theorem on118 : isOne Tryz.prog 118 = true := by kernel_rfl
theorem sz118 : (Tryz.prog.info? 118).map (·.size) = some 1 := by kernel_rfl
theorem zr118 : (Tryz.prog.info? 118).map (·.zero) = some (some (.nilFunc : Value)) := by kernel_rfl
theorem zs118 : (Tryz.prog.info? 118).map (fun i => (i.zero, i.size)) = some (some (.nilFunc : Value), 1) := by kernel_rfl
theorem on119 : isOne Tryz.prog 119 = true := by kernel_rfl
theorem sz119 : (Tryz.prog.info? 119).map (·.size) = some 1 := by kernel_rfl
theorem zr119 : (Tryz.prog.info? 119).map (·.zero) = some (some (.nilFunc : Value)) := by kernel_rfl
theorem zs119 : (Tryz.prog.info? 119).map (fun i => (i.zero, i.size)) = some (some (.nilFunc : Value), 1) := by kernel_rfl
theorem on120 : isOne Tryz.prog 120 = true := by kernel_rfl
theorem sz120 : (Tryz.prog.info? 120).map (·.size) = some 1 := by kernel_rfl
theorem zr120 : (Tryz.prog.info? 120).map (·.zero) = some (some (.nilFunc : Value)) := by kernel_rfl
theorem zs120 : (Tryz.prog.info? 120).map (fun i => (i.zero, i.size)) = some (some (.nilFunc : Value), 1) := by kernel_rfl
theorem un121 : Tryz.prog.underlying 121 = some (.slice 58) := Tryz.underlying121
theorem on121 : isOne Tryz.prog 121 = true := by kernel_rfl
theorem sz121 : (Tryz.prog.info? 121).map (·.size) = some 1 := by kernel_rfl
theorem zr121 : (Tryz.prog.info? 121).map (·.zero) = some (some (.slice none 0 0 : Value)) := by kernel_rfl
theorem zs121 : (Tryz.prog.info? 121).map (fun i => (i.zero, i.size)) = some (some (.slice none 0 0 : Value), 1) := by kernel_rfl
theorem un122 : Tryz.prog.underlying 122 = some (.pointer 153) := Tryz.underlying122
theorem on122 : isOne Tryz.prog 122 = true := by kernel_rfl
theorem sz122 : (Tryz.prog.info? 122).map (·.size) = some 1 := by kernel_rfl
theorem zr122 : (Tryz.prog.info? 122).map (·.zero) = some (some (.pointer none : Value)) := by kernel_rfl
theorem zs122 : (Tryz.prog.info? 122).map (fun i => (i.zero, i.size)) = some (some (.pointer none : Value), 1) := by kernel_rfl
theorem on123 : isOne Tryz.prog 123 = true := by kernel_rfl
theorem sz123 : (Tryz.prog.info? 123).map (·.size) = some 1 := by kernel_rfl
theorem zr123 : (Tryz.prog.info? 123).map (·.zero) = some (some (.nilFunc : Value)) := by kernel_rfl
theorem zs123 : (Tryz.prog.info? 123).map (fun i => (i.zero, i.size)) = some (some (.nilFunc : Value), 1) := by kernel_rfl
theorem on124 : isOne Tryz.prog 124 = true := by kernel_rfl
theorem sz124 : (Tryz.prog.info? 124).map (·.size) = some 1 := by kernel_rfl
theorem zr124 : (Tryz.prog.info? 124).map (·.zero) = some (some (.nilFunc : Value)) := by kernel_rfl
theorem zs124 : (Tryz.prog.info? 124).map (fun i => (i.zero, i.size)) = some (some (.nilFunc : Value), 1) := by kernel_rfl
theorem un125 : Tryz.prog.underlying 125 = some (.pointer 5) := Tryz.underlying125
theorem on125 : isOne Tryz.prog 125 = true := by kernel_rfl
theorem sz125 : (Tryz.prog.info? 125).map (·.size) = some 1 := by kernel_rfl
theorem zr125 : (Tryz.prog.info? 125).map (·.zero) = some (some (.pointer none : Value)) := by kernel_rfl
theorem zs125 : (Tryz.prog.info? 125).map (fun i => (i.zero, i.size)) = some (some (.pointer none : Value), 1) := by kernel_rfl
theorem on126 : isOne Tryz.prog 126 = true := by kernel_rfl
theorem sz126 : (Tryz.prog.info? 126).map (·.size) = some 1 := by kernel_rfl
theorem zr126 : (Tryz.prog.info? 126).map (·.zero) = some (some (.nilFunc : Value)) := by kernel_rfl
theorem zs126 : (Tryz.prog.info? 126).map (fun i => (i.zero, i.size)) = some (some (.nilFunc : Value), 1) := by kernel_rfl
theorem un127 : Tryz.prog.underlying 127 = some (.slice 66) := Tryz.underlying127
theorem on127 : isOne Tryz.prog 127 = true := by kernel_rfl
theorem sz127 : (Tryz.prog.info? 127).map (·.size) = some 1 := by kernel_rfl
theorem zr127 : (Tryz.prog.info? 127).map (·.zero) = some (some (.slice none 0 0 : Value)) := by kernel_rfl
theorem zs127 : (Tryz.prog.info? 127).map (fun i => (i.zero, i.size)) = some (some (.slice none 0 0 : Value), 1) := by kernel_rfl
theorem on128 : isOne Tryz.prog 128 = true := by kernel_rfl
theorem sz128 : (Tryz.prog.info? 128).map (·.size) = some 1 := by kernel_rfl
theorem zr128 : (Tryz.prog.info? 128).map (·.zero) = some (some (.nilFunc : Value)) := by kernel_rfl
theorem zs128 : (Tryz.prog.info? 128).map (fun i => (i.zero, i.size)) = some (some (.nilFunc : Value), 1) := by kernel_rfl
theorem on129 : isOne Tryz.prog 129 = true := by kernel_rfl
theorem sz129 : (Tryz.prog.info? 129).map (·.size) = some 1 := by kernel_rfl
theorem zr129 : (Tryz.prog.info? 129).map (·.zero) = some (some (.nilFunc : Value)) := by kernel_rfl
theorem zs129 : (Tryz.prog.info? 129).map (fun i => (i.zero, i.size)) = some (some (.nilFunc : Value), 1) := by kernel_rfl
theorem on130 : isOne Tryz.prog 130 = true := by kernel_rfl
theorem sz130 : (Tryz.prog.info? 130).map (·.size) = some 1 := by kernel_rfl
theorem zr130 : (Tryz.prog.info? 130).map (·.zero) = some (some (.nilFunc : Value)) := by kernel_rfl
theorem zs130 : (Tryz.prog.info? 130).map (fun i => (i.zero, i.size)) = some (some (.nilFunc : Value), 1) := by kernel_rfl
theorem on131 : isOne Tryz.prog 131 = true := by kernel_rfl
theorem sz131 : (Tryz.prog.info? 131).map (·.size) = some 1 := by kernel_rfl
theorem zr131 : (Tryz.prog.info? 131).map (·.zero) = some (some (.nilFunc : Value)) := by kernel_rfl
theorem zs131 : (Tryz.prog.info? 131).map (fun i => (i.zero, i.size)) = some (some (.nilFunc : Value), 1) := by kernel_rfl
theorem on132 : isOne Tryz.prog 132 = true := by kernel_rfl
theorem sz132 : (Tryz.prog.info? 132).map (·.size) = some 1 := by kernel_rfl
theorem zr132 : (Tryz.prog.info? 132).map (·.zero) = some (some (.nilFunc : Value)) := by kernel_rfl
theorem zs132 : (Tryz.prog.info? 132).map (fun i => (i.zero, i.size)) = some (some (.nilFunc : Value), 1) := by kernel_rfl
theorem on133 : isOne Tryz.prog 133 = true := by kernel_rfl
theorem sz133 : (Tryz.prog.info? 133).map (·.size) = some 1 := by kernel_rfl
theorem zr133 : (Tryz.prog.info? 133).map (·.zero) = some (some (.nilFunc : Value)) := by kernel_rfl
theorem zs133 : (Tryz.prog.info? 133).map (fun i => (i.zero, i.size)) = some (some (.nilFunc : Value), 1) := by kernel_rfl
theorem on134 : isOne Tryz.prog 134 = true := by kernel_rfl
theorem sz134 : (Tryz.prog.info? 134).map (·.size) = some 1 := by kernel_rfl
theorem zr134 : (Tryz.prog.info? 134).map (·.zero) = some (some (.nilFunc : Value)) := by kernel_rfl
theorem zs134 : (Tryz.prog.info? 134).map (fun i => (i.zero, i.size)) = some (some (.nilFunc : Value), 1) := by kernel_rfl
theorem on136 : isOne Tryz.prog 136 = true := by kernel_rfl
theorem sz136 : (Tryz.prog.info? 136).map (·.size) = some 1 := by kernel_rfl
theorem zr136 : (Tryz.prog.info? 136).map (·.zero) = some (some (.nilFunc : Value)) := by kernel_rfl
theorem zs136 : (Tryz.prog.info? 136).map (fun i => (i.zero, i.size)) = some (some (.nilFunc : Value), 1) := by kernel_rfl
theorem on137 : isOne Tryz.prog 137 = true := by kernel_rfl
theorem sz137 : (Tryz.prog.info? 137).map (·.size) = some 1 := by kernel_rfl
theorem zr137 : (Tryz.prog.info? 137).map (·.zero) = some (some (.nilFunc : Value)) := by kernel_rfl
theorem zs137 : (Tryz.prog.info? 137).map (fun i => (i.zero, i.size)) = some (some (.nilFunc : Value), 1) := by kernel_rfl
theorem ag138 : aggB Tryz.prog 138 2 = true := by kernel_rfl
theorem sz138 : (Tryz.prog.info? 138).map (·.size) = some 2 := by kernel_rfl
theorem fo138_0 : fieldOff Tryz.prog 138 0 = some 0 := by kernel_rfl
theorem fo138_1 : fieldOff Tryz.prog 138 1 = some 1 := by kernel_rfl
theorem zr138 : (Tryz.prog.info? 138).map (·.zero) = some (some (.agg #[.slice none 0 0, .bool false] : Value)) := by kernel_rfl
theorem zs138 : (Tryz.prog.info? 138).map (fun i => (i.zero, i.size)) = some (some (.agg #[.slice none 0 0, .bool false] : Value), 2) := by kernel_rfl
theorem ag139 : aggB Tryz.prog 139 2 = true := by kernel_rfl
theorem sz139 : (Tryz.prog.info? 139).map (·.size) = some 2 := by kernel_rfl
theorem fo139_0 : fieldOff Tryz.prog 139 0 = some 0 := by kernel_rfl
theorem fo139_1 : fieldOff Tryz.prog 139 1 = some 1 := by kernel_rfl
theorem zr139 : (Tryz.prog.info? 139).map (·.zero) = some (some (.agg #[.slice none 0 0, .bool false] : Value)) := by kernel_rfl
theorem zs139 : (Tryz.prog.info? 139).map (fun i => (i.zero, i.size)) = some (some (.agg #[.slice none 0 0, .bool false] : Value), 2) := by kernel_rfl
theorem on140 : isOne Tryz.prog 140 = true := by kernel_rfl
theorem sz140 : (Tryz.prog.info? 140).map (·.size) = some 1 := by kernel_rfl
theorem zr140 : (Tryz.prog.info? 140).map (·.zero) = some (some (.nilFunc : Value)) := by kernel_rfl
theorem zs140 : (Tryz.prog.info? 140).map (fun i => (i.zero, i.size)) = some (some (.nilFunc : Value), 1) := by kernel_rfl
theorem on141 : isOne Tryz.prog 141 = true := by kernel_rfl
theorem sz141 : (Tryz.prog.info? 141).map (·.size) = some 1 := by kernel_rfl
theorem zr141 : (Tryz.prog.info? 141).map (·.zero) = some (some (.nilFunc : Value)) := by kernel_rfl
theorem zs141 : (Tryz.prog.info? 141).map (fun i => (i.zero, i.size)) = some (some (.nilFunc : Value), 1) := by kernel_rfl
theorem ag142 : aggB Tryz.prog 142 3 = true := by kernel_rfl
theorem sz142 : (Tryz.prog.info? 142).map (·.size) = some 3 := by kernel_rfl
theorem fo142_0 : fieldOff Tryz.prog 142 0 = some 0 := by kernel_rfl
theorem fo142_1 : fieldOff Tryz.prog 142 1 = some 1 := by kernel_rfl
theorem fo142_2 : fieldOff Tryz.prog 142 2 = some 2 := by kernel_rfl
theorem zr142 : (Tryz.prog.info? 142).map (·.zero) = some (some (.agg #[.slice none 0 0, .int .i64 0, .bool false] : Value)) := by kernel_rfl
theorem zs142 : (Tryz.prog.info? 142).map (fun i => (i.zero, i.size)) = some (some (.agg #[.slice none 0 0, .int .i64 0, .bool false] : Value), 3) := by kernel_rfl
theorem ag143 : aggB Tryz.prog 143 3 = true := by kernel_rfl
theorem sz143 : (Tryz.prog.info? 143).map (·.size) = some 3 := by kernel_rfl
theorem fo143_0 : fieldOff Tryz.prog 143 0 = some 0 := by kernel_rfl
theorem fo143_1 : fieldOff Tryz.prog 143 1 = some 1 := by kernel_rfl
theorem fo143_2 : fieldOff Tryz.prog 143 2 = some 2 := by kernel_rfl
theorem zr143 : (Tryz.prog.info? 143).map (·.zero) = some (some (.agg #[.slice none 0 0, .int .i64 0, .bool false] : Value)) := by kernel_rfl
theorem zs143 : (Tryz.prog.info? 143).map (fun i => (i.zero, i.size)) = some (some (.agg #[.slice none 0 0, .int .i64 0, .bool false] : Value), 3) := by kernel_rfl
theorem on144 : isOne Tryz.prog 144 = true := by kernel_rfl
theorem sz144 : (Tryz.prog.info? 144).map (·.size) = some 1 := by kernel_rfl
theorem zr144 : (Tryz.prog.info? 144).map (·.zero) = some (some (.nilFunc : Value)) := by kernel_rfl
theorem zs144 : (Tryz.prog.info? 144).map (fun i => (i.zero, i.size)) = some (some (.nilFunc : Value), 1) := by kernel_rfl
theorem on145 : isOne Tryz.prog 145 = true := by kernel_rfl
theorem sz145 : (Tryz.prog.info? 145).map (·.size) = some 1 := by kernel_rfl
theorem zr145 : (Tryz.prog.info? 145).map (·.zero) = some (some (.nilFunc : Value)) := by kernel_rfl
theorem zs145 : (Tryz.prog.info? 145).map (fun i => (i.zero, i.size)) = some (some (.nilFunc : Value), 1) := by kernel_rfl
theorem on146 : isOne Tryz.prog 146 = true := by kernel_rfl
theorem sz146 : (Tryz.prog.info? 146).map (·.size) = some 1 := by kernel_rfl
theorem zr146 : (Tryz.prog.info? 146).map (·.zero) = some (some (.nilFunc : Value)) := by kernel_rfl
theorem zs146 : (Tryz.prog.info? 146).map (fun i => (i.zero, i.size)) = some (some (.nilFunc : Value), 1) := by kernel_rfl
theorem on147 : isOne Tryz.prog 147 = true := by kernel_rfl
theorem sz147 : (Tryz.prog.info? 147).map (·.size) = some 1 := by kernel_rfl
theorem zr147 : (Tryz.prog.info? 147).map (·.zero) = some (some (.nilFunc : Value)) := by kernel_rfl
theorem zs147 : (Tryz.prog.info? 147).map (fun i => (i.zero, i.size)) = some (some (.nilFunc : Value), 1) := by kernel_rfl
theorem on148 : isOne Tryz.prog 148 = true := by kernel_rfl
theorem sz148 : (Tryz.prog.info? 148).map (·.size) = some 1 := by kernel_rfl
theorem zr148 : (Tryz.prog.info? 148).map (·.zero) = some (some (.nilFunc : Value)) := by kernel_rfl
theorem zs148 : (Tryz.prog.info? 148).map (fun i => (i.zero, i.size)) = some (some (.nilFunc : Value), 1) := by kernel_rfl
theorem un149 : Tryz.prog.underlying 149 = some (.array 3 3) := Tryz.underlying149
theorem ag149 : aggB Tryz.prog 149 3 = true := by kernel_rfl
theorem sz149 : (Tryz.prog.info? 149).map (·.size) = some 3 := by kernel_rfl
theorem zr149 : (Tryz.prog.info? 149).map (·.zero) = some (some (.agg #[.int .i64 0, .int .i64 0, .int .i64 0] : Value)) := by kernel_rfl
theorem zs149 : (Tryz.prog.info? 149).map (fun i => (i.zero, i.size)) = some (some (.agg #[.int .i64 0, .int .i64 0, .int .i64 0] : Value), 3) := by kernel_rfl
theorem ag150 : aggB Tryz.prog 150 12 = true := by kernel_rfl
theorem sz150 : (Tryz.prog.info? 150).map (·.size) = some 12 := by kernel_rfl
theorem fo150_0 : fieldOff Tryz.prog 150 0 = some 0 := by kernel_rfl
theorem fo150_1 : fieldOff Tryz.prog 150 1 = some 3 := by kernel_rfl
theorem fo150_2 : fieldOff Tryz.prog 150 2 = some 6 := by kernel_rfl
theorem fo150_3 : fieldOff Tryz.prog 150 3 = some 9 := by kernel_rfl
theorem zr150 : (Tryz.prog.info? 150).map (·.zero) = some (some (.agg #[.int .i64 0, .int .i64 0, .int .i64 0, .int .i64 0, .int .i64 0, .int .i64 0, .int .i64 0, .int .i64 0, .int .i64 0, .int .i64 0, .int .i64 0, .int .i64 0] : Value)) := by kernel_rfl
theorem zs150 : (Tryz.prog.info? 150).map (fun i => (i.zero, i.size)) = some (some (.agg #[.int .i64 0, .int .i64 0, .int .i64 0, .int .i64 0, .int .i64 0, .int .i64 0, .int .i64 0, .int .i64 0, .int .i64 0, .int .i64 0, .int .i64 0, .int .i64 0] : Value), 12) := by kernel_rfl
theorem ag151 : aggB Tryz.prog 151 12 = true := by kernel_rfl
theorem sz151 : (Tryz.prog.info? 151).map (·.size) = some 12 := by kernel_rfl
theorem fo151_0 : fieldOff Tryz.prog 151 0 = some 0 := by kernel_rfl
theorem fo151_1 : fieldOff Tryz.prog 151 1 = some 3 := by kernel_rfl
theorem fo151_2 : fieldOff Tryz.prog 151 2 = some 6 := by kernel_rfl
theorem fo151_3 : fieldOff Tryz.prog 151 3 = some 9 := by kernel_rfl
theorem zr151 : (Tryz.prog.info? 151).map (·.zero) = some (some (.agg #[.int .i64 0, .int .i64 0, .int .i64 0, .int .i64 0, .int .i64 0, .int .i64 0, .int .i64 0, .int .i64 0, .int .i64 0, .int .i64 0, .int .i64 0, .int .i64 0] : Value)) := by kernel_rfl
theorem zs151 : (Tryz.prog.info? 151).map (fun i => (i.zero, i.size)) = some (some (.agg #[.int .i64 0, .int .i64 0, .int .i64 0, .int .i64 0, .int .i64 0, .int .i64 0, .int .i64 0, .int .i64 0, .int .i64 0, .int .i64 0, .int .i64 0, .int .i64 0] : Value), 12) := by kernel_rfl
theorem ag152 : aggB Tryz.prog 152 15 = true := by kernel_rfl
theorem sz152 : (Tryz.prog.info? 152).map (·.size) = some 15 := by kernel_rfl
theorem fo152_0 : fieldOff Tryz.prog 152 0 = some 0 := by kernel_rfl
theorem fo152_1 : fieldOff Tryz.prog 152 1 = some 1 := by kernel_rfl
theorem fo152_2 : fieldOff Tryz.prog 152 2 = some 2 := by kernel_rfl
theorem fo152_3 : fieldOff Tryz.prog 152 3 = some 3 := by kernel_rfl
theorem zr152 : (Tryz.prog.info? 152).map (·.zero) = some (some (.agg #[.slice none 0 0, .slice none 0 0, .int .i64 0, .int .i64 0, .int .i64 0, .int .i64 0, .int .i64 0, .int .i64 0, .int .i64 0, .int .i64 0, .int .i64 0, .int .i64 0, .int .i64 0, .int .i64 0, .int .i64 0] : Value)) := by kernel_rfl
theorem zs152 : (Tryz.prog.info? 152).map (fun i => (i.zero, i.size)) = some (some (.agg #[.slice none 0 0, .slice none 0 0, .int .i64 0, .int .i64 0, .int .i64 0, .int .i64 0, .int .i64 0, .int .i64 0, .int .i64 0, .int .i64 0, .int .i64 0, .int .i64 0, .int .i64 0, .int .i64 0, .int .i64 0] : Value), 15) := by kernel_rfl
theorem ag153 : aggB Tryz.prog 153 15 = true := by kernel_rfl
theorem sz153 : (Tryz.prog.info? 153).map (·.size) = some 15 := by kernel_rfl
theorem fo153_0 : fieldOff Tryz.prog 153 0 = some 0 := by kernel_rfl
theorem fo153_1 : fieldOff Tryz.prog 153 1 = some 1 := by kernel_rfl
theorem fo153_2 : fieldOff Tryz.prog 153 2 = some 2 := by kernel_rfl
theorem fo153_3 : fieldOff Tryz.prog 153 3 = some 3 := by kernel_rfl
theorem zr153 : (Tryz.prog.info? 153).map (·.zero) = some (some (.agg #[.slice none 0 0, .slice none 0 0, .int .i64 0, .int .i64 0, .int .i64 0, .int .i64 0, .int .i64 0, .int .i64 0, .int .i64 0, .int .i64 0, .int .i64 0, .int .i64 0, .int .i64 0, .int .i64 0, .int .i64 0] : Value)) := by kernel_rfl
theorem zs153 : (Tryz.prog.info? 153).map (fun i => (i.zero, i.size)) = some (some (.agg #[.slice none 0 0, .slice none 0 0, .int .i64 0, .int .i64 0, .int .i64 0, .int .i64 0, .int .i64 0, .int .i64 0, .int .i64 0, .int .i64 0, .int .i64 0, .int .i64 0, .int .i64 0, .int .i64 0, .int .i64 0] : Value), 15) := by kernel_rfl
theorem on154 : isOne Tryz.prog 154 = true := by kernel_rfl
theorem sz154 : (Tryz.prog.info? 154).map (·.size) = some 1 := by kernel_rfl
theorem zr154 : (Tryz.prog.info? 154).map (·.zero) = some (some (.nilFunc : Value)) := by kernel_rfl
theorem zs154 : (Tryz.prog.info? 154).map (fun i => (i.zero, i.size)) = some (some (.nilFunc : Value), 1) := by kernel_rfl
theorem on156 : isOne Tryz.prog 156 = true := by kernel_rfl
theorem sz156 : (Tryz.prog.info? 156).map (·.size) = some 1 := by kernel_rfl
theorem zr156 : (Tryz.prog.info? 156).map (·.zero) = some (some (.nilFunc : Value)) := by kernel_rfl
theorem zs156 : (Tryz.prog.info? 156).map (fun i => (i.zero, i.size)) = some (some (.nilFunc : Value), 1) := by kernel_rfl
theorem on157 : isOne Tryz.prog 157 = true := by kernel_rfl
theorem sz157 : (Tryz.prog.info? 157).map (·.size) = some 1 := by kernel_rfl
theorem zr157 : (Tryz.prog.info? 157).map (·.zero) = some (some (.nilFunc : Value)) := by kernel_rfl
theorem zs157 : (Tryz.prog.info? 157).map (fun i => (i.zero, i.size)) = some (some (.nilFunc : Value), 1) := by kernel_rfl
theorem on158 : isOne Tryz.prog 158 = true := by kernel_rfl
theorem sz158 : (Tryz.prog.info? 158).map (·.size) = some 1 := by kernel_rfl
theorem zr158 : (Tryz.prog.info? 158).map (·.zero) = some (some (.nilFunc : Value)) := by kernel_rfl
theorem zs158 : (Tryz.prog.info? 158).map (fun i => (i.zero, i.size)) = some (some (.nilFunc : Value), 1) := by kernel_rfl
theorem on160 : isOne Tryz.prog 160 = true := by kernel_rfl
theorem sz160 : (Tryz.prog.info? 160).map (·.size) = some 1 := by kernel_rfl
theorem zr160 : (Tryz.prog.info? 160).map (·.zero) = some (some (.nilFunc : Value)) := by kernel_rfl
theorem zs160 : (Tryz.prog.info? 160).map (fun i => (i.zero, i.size)) = some (some (.nilFunc : Value), 1) := by kernel_rfl
theorem on161 : isOne Tryz.prog 161 = true := by kernel_rfl
theorem sz161 : (Tryz.prog.info? 161).map (·.size) = some 1 := by kernel_rfl
theorem zr161 : (Tryz.prog.info? 161).map (·.zero) = some (some (.nilFunc : Value)) := by kernel_rfl
theorem zs161 : (Tryz.prog.info? 161).map (fun i => (i.zero, i.size)) = some (some (.nilFunc : Value), 1) := by kernel_rfl
theorem un162 : Tryz.prog.underlying 162 = some (.int .u16) := Tryz.underlying162
theorem on162 : isOne Tryz.prog 162 = true := by kernel_rfl
theorem sz162 : (Tryz.prog.info? 162).map (·.size) = some 1 := by kernel_rfl
theorem zr162 : (Tryz.prog.info? 162).map (·.zero) = some (some (.int .u16 0 : Value)) := by kernel_rfl
theorem zs162 : (Tryz.prog.info? 162).map (fun i => (i.zero, i.size)) = some (some (.int .u16 0 : Value), 1) := by kernel_rfl
theorem on163 : isOne Tryz.prog 163 = true := by kernel_rfl
theorem sz163 : (Tryz.prog.info? 163).map (·.size) = some 1 := by kernel_rfl
theorem zr163 : (Tryz.prog.info? 163).map (·.zero) = some (some (.nilFunc : Value)) := by kernel_rfl
theorem zs163 : (Tryz.prog.info? 163).map (fun i => (i.zero, i.size)) = some (some (.nilFunc : Value), 1) := by kernel_rfl
theorem un164 : Tryz.prog.underlying 164 = some (.int .i64) := Tryz.underlying164
theorem on164 : isOne Tryz.prog 164 = true := by kernel_rfl
theorem sz164 : (Tryz.prog.info? 164).map (·.size) = some 1 := by kernel_rfl
theorem zr164 : (Tryz.prog.info? 164).map (·.zero) = some (some (.int .i64 0 : Value)) := by kernel_rfl
theorem zs164 : (Tryz.prog.info? 164).map (fun i => (i.zero, i.size)) = some (some (.int .i64 0 : Value), 1) := by kernel_rfl
theorem on166 : isOne Tryz.prog 166 = true := by kernel_rfl
theorem sz166 : (Tryz.prog.info? 166).map (·.size) = some 1 := by kernel_rfl
theorem zr166 : (Tryz.prog.info? 166).map (·.zero) = some (some (.nilFunc : Value)) := by kernel_rfl
theorem zs166 : (Tryz.prog.info? 166).map (fun i => (i.zero, i.size)) = some (some (.nilFunc : Value), 1) := by kernel_rfl
theorem on167 : isOne Tryz.prog 167 = true := by kernel_rfl
theorem sz167 : (Tryz.prog.info? 167).map (·.size) = some 1 := by kernel_rfl
theorem zr167 : (Tryz.prog.info? 167).map (·.zero) = some (some (.nilFunc : Value)) := by kernel_rfl
theorem zs167 : (Tryz.prog.info? 167).map (fun i => (i.zero, i.size)) = some (some (.nilFunc : Value), 1) := by kernel_rfl
theorem on168 : isOne Tryz.prog 168 = true := by kernel_rfl
theorem sz168 : (Tryz.prog.info? 168).map (·.size) = some 1 := by kernel_rfl
theorem zr168 : (Tryz.prog.info? 168).map (·.zero) = some (some (.nilFunc : Value)) := by kernel_rfl
theorem zs168 : (Tryz.prog.info? 168).map (fun i => (i.zero, i.size)) = some (some (.nilFunc : Value), 1) := by kernel_rfl
theorem on170 : isOne Tryz.prog 170 = true := by kernel_rfl
theorem sz170 : (Tryz.prog.info? 170).map (·.size) = some 1 := by kernel_rfl
theorem zr170 : (Tryz.prog.info? 170).map (·.zero) = some (some (.nilFunc : Value)) := by kernel_rfl
theorem zs170 : (Tryz.prog.info? 170).map (fun i => (i.zero, i.size)) = some (some (.nilFunc : Value), 1) := by kernel_rfl
theorem on171 : isOne Tryz.prog 171 = true := by kernel_rfl
theorem sz171 : (Tryz.prog.info? 171).map (·.size) = some 1 := by kernel_rfl
theorem zr171 : (Tryz.prog.info? 171).map (·.zero) = some (some (.nilFunc : Value)) := by kernel_rfl
theorem zs171 : (Tryz.prog.info? 171).map (fun i => (i.zero, i.size)) = some (some (.nilFunc : Value), 1) := by kernel_rfl
theorem un172 : Tryz.prog.underlying 172 = some (.int .u32) := Tryz.underlying172
theorem on172 : isOne Tryz.prog 172 = true := by kernel_rfl
theorem sz172 : (Tryz.prog.info? 172).map (·.size) = some 1 := by kernel_rfl
theorem zr172 : (Tryz.prog.info? 172).map (·.zero) = some (some (.int .u32 0 : Value)) := by kernel_rfl
theorem zs172 : (Tryz.prog.info? 172).map (fun i => (i.zero, i.size)) = some (some (.int .u32 0 : Value), 1) := by kernel_rfl
theorem on173 : isOne Tryz.prog 173 = true := by kernel_rfl
theorem sz173 : (Tryz.prog.info? 173).map (·.size) = some 1 := by kernel_rfl
theorem zr173 : (Tryz.prog.info? 173).map (·.zero) = some (some (.nilFunc : Value)) := by kernel_rfl
theorem zs173 : (Tryz.prog.info? 173).map (fun i => (i.zero, i.size)) = some (some (.nilFunc : Value), 1) := by kernel_rfl
theorem on174 : isOne Tryz.prog 174 = true := by kernel_rfl
theorem sz174 : (Tryz.prog.info? 174).map (·.size) = some 1 := by kernel_rfl
theorem zr174 : (Tryz.prog.info? 174).map (·.zero) = some (some (.nilFunc : Value)) := by kernel_rfl
theorem zs174 : (Tryz.prog.info? 174).map (fun i => (i.zero, i.size)) = some (some (.nilFunc : Value), 1) := by kernel_rfl
theorem un175 : Tryz.prog.underlying 175 = some (.array 8 66) := Tryz.underlying175
theorem ag175 : aggB Tryz.prog 175 8 = true := by kernel_rfl
theorem sz175 : (Tryz.prog.info? 175).map (·.size) = some 8 := by kernel_rfl
theorem zr175 : (Tryz.prog.info? 175).map (·.zero) = some (some (.agg #[.int .u64 0, .int .u64 0, .int .u64 0, .int .u64 0, .int .u64 0, .int .u64 0, .int .u64 0, .int .u64 0] : Value)) := by kernel_rfl
theorem zs175 : (Tryz.prog.info? 175).map (fun i => (i.zero, i.size)) = some (some (.agg #[.int .u64 0, .int .u64 0, .int .u64 0, .int .u64 0, .int .u64 0, .int .u64 0, .int .u64 0, .int .u64 0] : Value), 8) := by kernel_rfl
theorem on176 : isOne Tryz.prog 176 = true := by kernel_rfl
theorem sz176 : (Tryz.prog.info? 176).map (·.size) = some 1 := by kernel_rfl
theorem zr176 : (Tryz.prog.info? 176).map (·.zero) = some (some (.nilFunc : Value)) := by kernel_rfl
theorem zs176 : (Tryz.prog.info? 176).map (fun i => (i.zero, i.size)) = some (some (.nilFunc : Value), 1) := by kernel_rfl
theorem on177 : isOne Tryz.prog 177 = true := by kernel_rfl
theorem sz177 : (Tryz.prog.info? 177).map (·.size) = some 1 := by kernel_rfl
theorem zr177 : (Tryz.prog.info? 177).map (·.zero) = some (some (.nilFunc : Value)) := by kernel_rfl
theorem zs177 : (Tryz.prog.info? 177).map (fun i => (i.zero, i.size)) = some (some (.nilFunc : Value), 1) := by kernel_rfl
theorem on178 : isOne Tryz.prog 178 = true := by kernel_rfl
theorem sz178 : (Tryz.prog.info? 178).map (·.size) = some 1 := by kernel_rfl
theorem zr178 : (Tryz.prog.info? 178).map (·.zero) = some (some (.nilFunc : Value)) := by kernel_rfl
theorem zs178 : (Tryz.prog.info? 178).map (fun i => (i.zero, i.size)) = some (some (.nilFunc : Value), 1) := by kernel_rfl
theorem un179 : Tryz.prog.underlying 179 = some (.int .u64) := Tryz.underlying179
theorem on179 : isOne Tryz.prog 179 = true := by kernel_rfl
theorem sz179 : (Tryz.prog.info? 179).map (·.size) = some 1 := by kernel_rfl
theorem zr179 : (Tryz.prog.info? 179).map (·.zero) = some (some (.int .u64 0 : Value)) := by kernel_rfl
theorem zs179 : (Tryz.prog.info? 179).map (fun i => (i.zero, i.size)) = some (some (.int .u64 0 : Value), 1) := by kernel_rfl
theorem on180 : isOne Tryz.prog 180 = true := by kernel_rfl
theorem sz180 : (Tryz.prog.info? 180).map (·.size) = some 1 := by kernel_rfl
theorem zr180 : (Tryz.prog.info? 180).map (·.zero) = some (some (.nilFunc : Value)) := by kernel_rfl
theorem zs180 : (Tryz.prog.info? 180).map (fun i => (i.zero, i.size)) = some (some (.nilFunc : Value), 1) := by kernel_rfl
theorem on181 : isOne Tryz.prog 181 = true := by kernel_rfl
theorem sz181 : (Tryz.prog.info? 181).map (·.size) = some 1 := by kernel_rfl
theorem zr181 : (Tryz.prog.info? 181).map (·.zero) = some (some (.nilFunc : Value)) := by kernel_rfl
theorem zs181 : (Tryz.prog.info? 181).map (fun i => (i.zero, i.size)) = some (some (.nilFunc : Value), 1) := by kernel_rfl
theorem on182 : isOne Tryz.prog 182 = true := by kernel_rfl
theorem sz182 : (Tryz.prog.info? 182).map (·.size) = some 1 := by kernel_rfl
theorem zr182 : (Tryz.prog.info? 182).map (·.zero) = some (some (.nilFunc : Value)) := by kernel_rfl
theorem zs182 : (Tryz.prog.info? 182).map (fun i => (i.zero, i.size)) = some (some (.nilFunc : Value), 1) := by kernel_rfl
theorem un183 : Tryz.prog.underlying 183 = some (.pointer 3) := Tryz.underlying183
theorem on183 : isOne Tryz.prog 183 = true := by kernel_rfl
theorem sz183 : (Tryz.prog.info? 183).map (·.size) = some 1 := by kernel_rfl
theorem zr183 : (Tryz.prog.info? 183).map (·.zero) = some (some (.pointer none : Value)) := by kernel_rfl
theorem zs183 : (Tryz.prog.info? 183).map (fun i => (i.zero, i.size)) = some (some (.pointer none : Value), 1) := by kernel_rfl
theorem on184 : isOne Tryz.prog 184 = true := by kernel_rfl
theorem sz184 : (Tryz.prog.info? 184).map (·.size) = some 1 := by kernel_rfl
theorem zr184 : (Tryz.prog.info? 184).map (·.zero) = some (some (.nilFunc : Value)) := by kernel_rfl
theorem zs184 : (Tryz.prog.info? 184).map (fun i => (i.zero, i.size)) = some (some (.nilFunc : Value), 1) := by kernel_rfl
theorem un185 : Tryz.prog.underlying 185 = some (.array 256 5) := Tryz.underlying185
theorem ag185 : aggB Tryz.prog 185 256 = true := by kernel_rfl
theorem sz185 : (Tryz.prog.info? 185).map (·.size) = some 256 := by kernel_rfl
theorem zr185 : (Tryz.prog.info? 185).map (·.zero) = some (some (.agg #[.int .u8 0, .int .u8 0, .int .u8 0, .int .u8 0, .int .u8 0, .int .u8 0, .int .u8 0, .int .u8 0, .int .u8 0, .int .u8 0, .int .u8 0, .int .u8 0, .int .u8 0, .int .u8 0, .int .u8 0, .int .u8 0, .int .u8 0, .int .u8 0, .int .u8 0, .int .u8 0, .int .u8 0, .int .u8 0, .int .u8 0, .int .u8 0, .int .u8 0, .int .u8 0, .int .u8 0, .int .u8 0, .int .u8 0, .int .u8 0, .int .u8 0, .int .u8 0, .int .u8 0, .int .u8 0, .int .u8 0, .int .u8 0, .int .u8 0, .int .u8 0, .int .u8 0, .int .u8 0, .int .u8 0, .int .u8 0, .int .u8 0, .int .u8 0, .int .u8 0, .int .u8 0, .int .u8 0, .int .u8 0, .int .u8 0, .int .u8 0, .int .u8 0, .int .u8 0, .int .u8 0, .int .u8 0, .int .u8 0, .int .u8 0, .int .u8 0, .int .u8 0, .int .u8 0, .int .u8 0, .int .u8 0, .int .u8 0, .int .u8 0, .int .u8 0, .int .u8 0, .int .u8 0, .int .u8 0, .int .u8 0, .int .u8 0, .int .u8 0, .int .u8 0, .int .u8 0, .int .u8 0, .int .u8 0, .int .u8 0, .int .u8 0, .int .u8 0, .int .u8 0, .int .u8 0, .int .u8 0, .int .u8 0, .int .u8 0, .int .u8 0, .int .u8 0, .int .u8 0, .int .u8 0, .int .u8 0, .int .u8 0, .int .u8 0, .int .u8 0, .int .u8 0, .int .u8 0, .int .u8 0, .int .u8 0, .int .u8 0, .int .u8 0, .int .u8 0, .int .u8 0, .int .u8 0, .int .u8 0, .int .u8 0, .int .u8 0, .int .u8 0, .int .u8 0, .int .u8 0, .int .u8 0, .int .u8 0, .int .u8 0, .int .u8 0, .int .u8 0, .int .u8 0, .int .u8 0, .int .u8 0, .int .u8 0, .int .u8 0, .int .u8 0, .int .u8 0, .int .u8 0, .int .u8 0, .int .u8 0, .int .u8 0, .int .u8 0, .int .u8 0, .int .u8 0, .int .u8 0, .int .u8 0, .int .u8 0, .int .u8 0, .int .u8 0, .int .u8 0, .int .u8 0, .int .u8 0, .int .u8 0, .int .u8 0, .int .u8 0, .int .u8 0, .int .u8 0, .int .u8 0, .int .u8 0, .int .u8 0, .int .u8 0, .int .u8 0, .int .u8 0, .int .u8 0, .int .u8 0, .int .u8 0, .int .u8 0, .int .u8 0, .int .u8 0, .int .u8 0, .int .u8 0, .int .u8 0, .int .u8 0, .int .u8 0, .int .u8 0, .int .u8 0, .int .u8 0, .int .u8 0, .int .u8 0, .int .u8 0, .int .u8 0, .int .u8 0, .int .u8 0, .int .u8 0, .int .u8 0, .int .u8 0, .int .u8 0, .int .u8 0, .int .u8 0, .int .u8 0, .int .u8 0, .int .u8 0, .int .u8 0, .int .u8 0, .int .u8 0, .int .u8 0, .int .u8 0, .int .u8 0, .int .u8 0, .int .u8 0, .int .u8 0, .int .u8 0, .int .u8 0, .int .u8 0, .int .u8 0, .int .u8 0, .int .u8 0, .int .u8 0, .int .u8 0, .int .u8 0, .int .u8 0, .int .u8 0, .int .u8 0, .int .u8 0, .int .u8 0, .int .u8 0, .int .u8 0, .int .u8 0, .int .u8 0, .int .u8 0, .int .u8 0, .int .u8 0, .int .u8 0, .int .u8 0, .int .u8 0, .int .u8 0, .int .u8 0, .int .u8 0, .int .u8 0, .int .u8 0, .int .u8 0, .int .u8 0, .int .u8 0, .int .u8 0, .int .u8 0, .int .u8 0, .int .u8 0, .int .u8 0, .int .u8 0, .int .u8 0, .int .u8 0, .int .u8 0, .int .u8 0, .int .u8 0, .int .u8 0, .int .u8 0, .int .u8 0, .int .u8 0, .int .u8 0, .int .u8 0, .int .u8 0, .int .u8 0, .int .u8 0, .int .u8 0, .int .u8 0, .int .u8 0, .int .u8 0, .int .u8 0, .int .u8 0, .int .u8 0, .int .u8 0, .int .u8 0, .int .u8 0, .int .u8 0, .int .u8 0, .int .u8 0, .int .u8 0, .int .u8 0, .int .u8 0, .int .u8 0, .int .u8 0, .int .u8 0, .int .u8 0, .int .u8 0, .int .u8 0, .int .u8 0] : Value)) := by kernel_rfl
theorem zs185 : (Tryz.prog.info? 185).map (fun i => (i.zero, i.size)) = some (some (.agg #[.int .u8 0, .int .u8 0, .int .u8 0, .int .u8 0, .int .u8 0, .int .u8 0, .int .u8 0, .int .u8 0, .int .u8 0, .int .u8 0, .int .u8 0, .int .u8 0, .int .u8 0, .int .u8 0, .int .u8 0, .int .u8 0, .int .u8 0, .int .u8 0, .int .u8 0, .int .u8 0, .int .u8 0, .int .u8 0, .int .u8 0, .int .u8 0, .int .u8 0, .int .u8 0, .int .u8 0, .int .u8 0, .int .u8 0, .int .u8 0, .int .u8 0, .int .u8 0, .int .u8 0, .int .u8 0, .int .u8 0, .int .u8 0, .int .u8 0, .int .u8 0, .int .u8 0, .int .u8 0, .int .u8 0, .int .u8 0, .int .u8 0, .int .u8 0, .int .u8 0, .int .u8 0, .int .u8 0, .int .u8 0, .int .u8 0, .int .u8 0, .int .u8 0, .int .u8 0, .int .u8 0, .int .u8 0, .int .u8 0, .int .u8 0, .int .u8 0, .int .u8 0, .int .u8 0, .int .u8 0, .int .u8 0, .int .u8 0, .int .u8 0, .int .u8 0, .int .u8 0, .int .u8 0, .int .u8 0, .int .u8 0, .int .u8 0, .int .u8 0, .int .u8 0, .int .u8 0, .int .u8 0, .int .u8 0, .int .u8 0, .int .u8 0, .int .u8 0, .int .u8 0, .int .u8 0, .int .u8 0, .int .u8 0, .int .u8 0, .int .u8 0, .int .u8 0, .int .u8 0, .int .u8 0, .int .u8 0, .int .u8 0, .int .u8 0, .int .u8 0, .int .u8 0, .int .u8 0, .int .u8 0, .int .u8 0, .int .u8 0, .int .u8 0, .int .u8 0, .int .u8 0, .int .u8 0, .int .u8 0, .int .u8 0, .int .u8 0, .int .u8 0, .int .u8 0, .int .u8 0, .int .u8 0, .int .u8 0, .int .u8 0, .int .u8 0, .int .u8 0, .int .u8 0, .int .u8 0, .int .u8 0, .int .u8 0, .int .u8 0, .int .u8 0, .int .u8 0, .int .u8 0, .int .u8 0, .int .u8 0, .int .u8 0, .int .u8 0, .int .u8 0, .int .u8 0, .int .u8 0, .int .u8 0, .int .u8 0, .int .u8 0, .int .u8 0, .int .u8 0, .int .u8 0, .int .u8 0, .int .u8 0, .int .u8 0, .int .u8 0, .int .u8 0, .int .u8 0, .int .u8 0, .int .u8 0, .int .u8 0, .int .u8 0, .int .u8 0, .int .u8 0, .int .u8 0, .int .u8 0, .int .u8 0, .int .u8 0, .int .u8 0, .int .u8 0, .int .u8 0, .int .u8 0, .int .u8 0, .int .u8 0, .int .u8 0, .int .u8 0, .int .u8 0, .int .u8 0, .int .u8 0, .int .u8 0, .int .u8 0, .int .u8 0, .int .u8 0, .int .u8 0, .int .u8 0, .int .u8 0, .int .u8 0, .int .u8 0, .int .u8 0, .int .u8 0, .int .u8 0, .int .u8 0, .int .u8 0, .int .u8 0, .int .u8 0, .int .u8 0, .int .u8 0, .int .u8 0, .int .u8 0, .int .u8 0, .int .u8 0, .int .u8 0, .int .u8 0, .int .u8 0, .int .u8 0, .int .u8 0, .int .u8 0, .int .u8 0, .int .u8 0, .int .u8 0, .int .u8 0, .int .u8 0, .int .u8 0, .int .u8 0, .int .u8 0, .int .u8 0, .int .u8 0, .int .u8 0, .int .u8 0, .int .u8 0, .int .u8 0, .int .u8 0, .int .u8 0, .int .u8 0, .int .u8 0, .int .u8 0, .int .u8 0, .int .u8 0, .int .u8 0, .int .u8 0, .int .u8 0, .int .u8 0, .int .u8 0, .int .u8 0, .int .u8 0, .int .u8 0, .int .u8 0, .int .u8 0, .int .u8 0, .int .u8 0, .int .u8 0, .int .u8 0, .int .u8 0, .int .u8 0, .int .u8 0, .int .u8 0, .int .u8 0, .int .u8 0, .int .u8 0, .int .u8 0, .int .u8 0, .int .u8 0, .int .u8 0, .int .u8 0, .int .u8 0, .int .u8 0, .int .u8 0, .int .u8 0, .int .u8 0, .int .u8 0, .int .u8 0, .int .u8 0, .int .u8 0, .int .u8 0, .int .u8 0, .int .u8 0, .int .u8 0, .int .u8 0, .int .u8 0, .int .u8 0, .int .u8 0, .int .u8 0, .int .u8 0, .int .u8 0, .int .u8 0, .int .u8 0, .int .u8 0] : Value), 256) := by kernel_rfl
theorem ag186 : aggB Tryz.prog 186 2 = true := by kernel_rfl
theorem sz186 : (Tryz.prog.info? 186).map (·.size) = some 2 := by kernel_rfl
theorem fo186_0 : fieldOff Tryz.prog 186 0 = some 0 := by kernel_rfl
theorem fo186_1 : fieldOff Tryz.prog 186 1 = some 1 := by kernel_rfl
theorem zr186 : (Tryz.prog.info? 186).map (·.zero) = some (some (.agg #[.int .u8 0, .int .u8 0] : Value)) := by kernel_rfl
theorem zs186 : (Tryz.prog.info? 186).map (fun i => (i.zero, i.size)) = some (some (.agg #[.int .u8 0, .int .u8 0] : Value), 2) := by kernel_rfl
theorem ag187 : aggB Tryz.prog 187 2 = true := by kernel_rfl
theorem sz187 : (Tryz.prog.info? 187).map (·.size) = some 2 := by kernel_rfl
theorem fo187_0 : fieldOff Tryz.prog 187 0 = some 0 := by kernel_rfl
theorem fo187_1 : fieldOff Tryz.prog 187 1 = some 1 := by kernel_rfl
theorem zr187 : (Tryz.prog.info? 187).map (·.zero) = some (some (.agg #[.int .u8 0, .int .u8 0] : Value)) := by kernel_rfl
theorem zs187 : (Tryz.prog.info? 187).map (fun i => (i.zero, i.size)) = some (some (.agg #[.int .u8 0, .int .u8 0] : Value), 2) := by kernel_rfl
theorem un188 : Tryz.prog.underlying 188 = some (.array 16 187) := Tryz.underlying188
theorem ag188 : aggB Tryz.prog 188 32 = true := by kernel_rfl
theorem sz188 : (Tryz.prog.info? 188).map (·.size) = some 32 := by kernel_rfl
theorem zr188 : (Tryz.prog.info? 188).map (·.zero) = some (some (.agg #[.int .u8 0, .int .u8 0, .int .u8 0, .int .u8 0, .int .u8 0, .int .u8 0, .int .u8 0, .int .u8 0, .int .u8 0, .int .u8 0, .int .u8 0, .int .u8 0, .int .u8 0, .int .u8 0, .int .u8 0, .int .u8 0, .int .u8 0, .int .u8 0, .int .u8 0, .int .u8 0, .int .u8 0, .int .u8 0, .int .u8 0, .int .u8 0, .int .u8 0, .int .u8 0, .int .u8 0, .int .u8 0, .int .u8 0, .int .u8 0, .int .u8 0, .int .u8 0] : Value)) := by kernel_rfl
theorem zs188 : (Tryz.prog.info? 188).map (fun i => (i.zero, i.size)) = some (some (.agg #[.int .u8 0, .int .u8 0, .int .u8 0, .int .u8 0, .int .u8 0, .int .u8 0, .int .u8 0, .int .u8 0, .int .u8 0, .int .u8 0, .int .u8 0, .int .u8 0, .int .u8 0, .int .u8 0, .int .u8 0, .int .u8 0, .int .u8 0, .int .u8 0, .int .u8 0, .int .u8 0, .int .u8 0, .int .u8 0, .int .u8 0, .int .u8 0, .int .u8 0, .int .u8 0, .int .u8 0, .int .u8 0, .int .u8 0, .int .u8 0, .int .u8 0, .int .u8 0] : Value), 32) := by kernel_rfl
theorem un189 : Tryz.prog.underlying 189 = some (.pointer 179) := Tryz.underlying189
theorem on189 : isOne Tryz.prog 189 = true := by kernel_rfl
theorem sz189 : (Tryz.prog.info? 189).map (·.size) = some 1 := by kernel_rfl
theorem zr189 : (Tryz.prog.info? 189).map (·.zero) = some (some (.pointer none : Value)) := by kernel_rfl
theorem zs189 : (Tryz.prog.info? 189).map (fun i => (i.zero, i.size)) = some (some (.pointer none : Value), 1) := by kernel_rfl
theorem on191 : isOne Tryz.prog 191 = true := by kernel_rfl
theorem sz191 : (Tryz.prog.info? 191).map (·.size) = some 1 := by kernel_rfl
theorem zr191 : (Tryz.prog.info? 191).map (·.zero) = some (some (.nilFunc : Value)) := by kernel_rfl
theorem zs191 : (Tryz.prog.info? 191).map (fun i => (i.zero, i.size)) = some (some (.nilFunc : Value), 1) := by kernel_rfl
theorem on193 : isOne Tryz.prog 193 = true := by kernel_rfl
theorem sz193 : (Tryz.prog.info? 193).map (·.size) = some 1 := by kernel_rfl
theorem zr193 : (Tryz.prog.info? 193).map (·.zero) = some (some (.nilFunc : Value)) := by kernel_rfl
theorem zs193 : (Tryz.prog.info? 193).map (fun i => (i.zero, i.size)) = some (some (.nilFunc : Value), 1) := by kernel_rfl
theorem ag194 : aggB Tryz.prog 194 4 = true := by kernel_rfl
theorem sz194 : (Tryz.prog.info? 194).map (·.size) = some 4 := by kernel_rfl
theorem fo194_0 : fieldOff Tryz.prog 194 0 = some 0 := by kernel_rfl
theorem fo194_1 : fieldOff Tryz.prog 194 1 = some 1 := by kernel_rfl
theorem fo194_2 : fieldOff Tryz.prog 194 2 = some 2 := by kernel_rfl
theorem fo194_3 : fieldOff Tryz.prog 194 3 = some 3 := by kernel_rfl
theorem zr194 : (Tryz.prog.info? 194).map (·.zero) = some (some (.agg #[.pointer none, .pointer none, .pointer none, .string ByteArray.empty] : Value)) := by kernel_rfl
theorem zs194 : (Tryz.prog.info? 194).map (fun i => (i.zero, i.size)) = some (some (.agg #[.pointer none, .pointer none, .pointer none, .string ByteArray.empty] : Value), 4) := by kernel_rfl
theorem ag195 : aggB Tryz.prog 195 4 = true := by kernel_rfl
theorem sz195 : (Tryz.prog.info? 195).map (·.size) = some 4 := by kernel_rfl
theorem fo195_0 : fieldOff Tryz.prog 195 0 = some 0 := by kernel_rfl
theorem fo195_1 : fieldOff Tryz.prog 195 1 = some 1 := by kernel_rfl
theorem fo195_2 : fieldOff Tryz.prog 195 2 = some 2 := by kernel_rfl
theorem fo195_3 : fieldOff Tryz.prog 195 3 = some 3 := by kernel_rfl
theorem zr195 : (Tryz.prog.info? 195).map (·.zero) = some (some (.agg #[.pointer none, .pointer none, .pointer none, .string ByteArray.empty] : Value)) := by kernel_rfl
theorem zs195 : (Tryz.prog.info? 195).map (fun i => (i.zero, i.size)) = some (some (.agg #[.pointer none, .pointer none, .pointer none, .string ByteArray.empty] : Value), 4) := by kernel_rfl
theorem un196 : Tryz.prog.underlying 196 = some (.array 0 16) := Tryz.underlying196
theorem sz196 : (Tryz.prog.info? 196).map (·.size) = some 0 := by kernel_rfl
theorem zr196 : (Tryz.prog.info? 196).map (·.zero) = some (some (.agg #[] : Value)) := by kernel_rfl
theorem zs196 : (Tryz.prog.info? 196).map (fun i => (i.zero, i.size)) = some (some (.agg #[] : Value), 0) := by kernel_rfl
theorem sz197 : (Tryz.prog.info? 197).map (·.size) = some 0 := by kernel_rfl
theorem zr197 : (Tryz.prog.info? 197).map (·.zero) = some (some (.agg #[] : Value)) := by kernel_rfl
theorem zs197 : (Tryz.prog.info? 197).map (fun i => (i.zero, i.size)) = some (some (.agg #[] : Value), 0) := by kernel_rfl
theorem sz198 : (Tryz.prog.info? 198).map (·.size) = some 0 := by kernel_rfl
theorem zr198 : (Tryz.prog.info? 198).map (·.zero) = some (some (.agg #[] : Value)) := by kernel_rfl
theorem zs198 : (Tryz.prog.info? 198).map (fun i => (i.zero, i.size)) = some (some (.agg #[] : Value), 0) := by kernel_rfl
theorem on199 : isOne Tryz.prog 199 = true := by kernel_rfl
theorem sz199 : (Tryz.prog.info? 199).map (·.size) = some 1 := by kernel_rfl
theorem zr199 : (Tryz.prog.info? 199).map (·.zero) = some (some (.nilFunc : Value)) := by kernel_rfl
theorem zs199 : (Tryz.prog.info? 199).map (fun i => (i.zero, i.size)) = some (some (.nilFunc : Value), 1) := by kernel_rfl
theorem un200 : Tryz.prog.underlying 200 = some (.int .u8) := Tryz.underlying200
theorem on200 : isOne Tryz.prog 200 = true := by kernel_rfl
theorem sz200 : (Tryz.prog.info? 200).map (·.size) = some 1 := by kernel_rfl
theorem zr200 : (Tryz.prog.info? 200).map (·.zero) = some (some (.int .u8 0 : Value)) := by kernel_rfl
theorem zs200 : (Tryz.prog.info? 200).map (fun i => (i.zero, i.size)) = some (some (.int .u8 0 : Value), 1) := by kernel_rfl
theorem un201 : Tryz.prog.underlying 201 = some (.int .u8) := Tryz.underlying201
theorem on201 : isOne Tryz.prog 201 = true := by kernel_rfl
theorem sz201 : (Tryz.prog.info? 201).map (·.size) = some 1 := by kernel_rfl
theorem zr201 : (Tryz.prog.info? 201).map (·.zero) = some (some (.int .u8 0 : Value)) := by kernel_rfl
theorem zs201 : (Tryz.prog.info? 201).map (fun i => (i.zero, i.size)) = some (some (.int .u8 0 : Value), 1) := by kernel_rfl
theorem on202 : isOne Tryz.prog 202 = true := by kernel_rfl
theorem sz202 : (Tryz.prog.info? 202).map (·.size) = some 1 := by kernel_rfl
theorem zr202 : (Tryz.prog.info? 202).map (·.zero) = some (some (.nilFunc : Value)) := by kernel_rfl
theorem zs202 : (Tryz.prog.info? 202).map (fun i => (i.zero, i.size)) = some (some (.nilFunc : Value), 1) := by kernel_rfl
theorem un203 : Tryz.prog.underlying 203 = some (.int .i32) := Tryz.underlying203
theorem on203 : isOne Tryz.prog 203 = true := by kernel_rfl
theorem sz203 : (Tryz.prog.info? 203).map (·.size) = some 1 := by kernel_rfl
theorem zr203 : (Tryz.prog.info? 203).map (·.zero) = some (some (.int .i32 0 : Value)) := by kernel_rfl
theorem zs203 : (Tryz.prog.info? 203).map (fun i => (i.zero, i.size)) = some (some (.int .i32 0 : Value), 1) := by kernel_rfl
theorem un204 : Tryz.prog.underlying 204 = some (.int .i32) := Tryz.underlying204
theorem on204 : isOne Tryz.prog 204 = true := by kernel_rfl
theorem sz204 : (Tryz.prog.info? 204).map (·.size) = some 1 := by kernel_rfl
theorem zr204 : (Tryz.prog.info? 204).map (·.zero) = some (some (.int .i32 0 : Value)) := by kernel_rfl
theorem zs204 : (Tryz.prog.info? 204).map (fun i => (i.zero, i.size)) = some (some (.int .i32 0 : Value), 1) := by kernel_rfl
theorem ag205 : aggB Tryz.prog 205 11 = true := by kernel_rfl
theorem sz205 : (Tryz.prog.info? 205).map (·.size) = some 11 := by kernel_rfl
theorem fo205_0 : fieldOff Tryz.prog 205 0 = some 0 := by kernel_rfl
theorem fo205_1 : fieldOff Tryz.prog 205 1 = some 1 := by kernel_rfl
theorem fo205_2 : fieldOff Tryz.prog 205 2 = some 2 := by kernel_rfl
theorem fo205_3 : fieldOff Tryz.prog 205 3 = some 3 := by kernel_rfl
theorem fo205_4 : fieldOff Tryz.prog 205 4 = some 4 := by kernel_rfl
theorem fo205_5 : fieldOff Tryz.prog 205 5 = some 5 := by kernel_rfl
theorem fo205_6 : fieldOff Tryz.prog 205 6 = some 6 := by kernel_rfl
theorem fo205_7 : fieldOff Tryz.prog 205 7 = some 7 := by kernel_rfl
theorem fo205_8 : fieldOff Tryz.prog 205 8 = some 8 := by kernel_rfl
theorem fo205_9 : fieldOff Tryz.prog 205 9 = some 9 := by kernel_rfl
theorem fo205_10 : fieldOff Tryz.prog 205 10 = some 10 := by kernel_rfl
theorem zr205 : (Tryz.prog.info? 205).map (·.zero) = some (some (.agg #[.int .u64 0, .int .u64 0, .int .u32 0, .int .u8 0, .int .u8 0, .int .u8 0, .int .u8 0, .nilFunc, .pointer none, .int .i32 0, .int .i32 0] : Value)) := by kernel_rfl
theorem zs205 : (Tryz.prog.info? 205).map (fun i => (i.zero, i.size)) = some (some (.agg #[.int .u64 0, .int .u64 0, .int .u32 0, .int .u8 0, .int .u8 0, .int .u8 0, .int .u8 0, .nilFunc, .pointer none, .int .i32 0, .int .i32 0] : Value), 11) := by kernel_rfl
theorem ag206 : aggB Tryz.prog 206 11 = true := by kernel_rfl
theorem sz206 : (Tryz.prog.info? 206).map (·.size) = some 11 := by kernel_rfl
theorem fo206_0 : fieldOff Tryz.prog 206 0 = some 0 := by kernel_rfl
theorem fo206_1 : fieldOff Tryz.prog 206 1 = some 1 := by kernel_rfl
theorem fo206_2 : fieldOff Tryz.prog 206 2 = some 2 := by kernel_rfl
theorem fo206_3 : fieldOff Tryz.prog 206 3 = some 3 := by kernel_rfl
theorem fo206_4 : fieldOff Tryz.prog 206 4 = some 4 := by kernel_rfl
theorem fo206_5 : fieldOff Tryz.prog 206 5 = some 5 := by kernel_rfl
theorem fo206_6 : fieldOff Tryz.prog 206 6 = some 6 := by kernel_rfl
theorem fo206_7 : fieldOff Tryz.prog 206 7 = some 7 := by kernel_rfl
theorem fo206_8 : fieldOff Tryz.prog 206 8 = some 8 := by kernel_rfl
theorem fo206_9 : fieldOff Tryz.prog 206 9 = some 9 := by kernel_rfl
theorem fo206_10 : fieldOff Tryz.prog 206 10 = some 10 := by kernel_rfl
theorem zr206 : (Tryz.prog.info? 206).map (·.zero) = some (some (.agg #[.int .u64 0, .int .u64 0, .int .u32 0, .int .u8 0, .int .u8 0, .int .u8 0, .int .u8 0, .nilFunc, .pointer none, .int .i32 0, .int .i32 0] : Value)) := by kernel_rfl
theorem zs206 : (Tryz.prog.info? 206).map (fun i => (i.zero, i.size)) = some (some (.agg #[.int .u64 0, .int .u64 0, .int .u32 0, .int .u8 0, .int .u8 0, .int .u8 0, .int .u8 0, .nilFunc, .pointer none, .int .i32 0, .int .i32 0] : Value), 11) := by kernel_rfl
theorem zb22_30 : (Tryz.prog.info? 30).map (fun i => (i.zero, i.size, i.bytes)) = some (some (.agg #[.int .u8 0, .int .u8 0, .int .u8 0, .int .u8 0, .int .u8 0, .int .u8 0, .int .u8 0, .int .u8 0, .int .u8 0, .int .u8 0, .int .u8 0, .int .u8 0, .int .u8 0, .int .u8 0, .int .u8 0, .int .u8 0, .int .u8 0, .int .u8 0, .int .u8 0, .int .u8 0, .int .u8 0, .int .u8 0, .int .u8 0, .int .u8 0, .int .u8 0, .int .u8 0, .int .u8 0, .int .u8 0, .int .u8 0, .int .u8 0, .int .u8 0, .int .u8 0] : Value), 32, 32) := by kernel_rfl
theorem sl22 : SlT Tryz.prog 22 30 (.agg #[.int .u8 0, .int .u8 0, .int .u8 0, .int .u8 0, .int .u8 0, .int .u8 0, .int .u8 0, .int .u8 0, .int .u8 0, .int .u8 0, .int .u8 0, .int .u8 0, .int .u8 0, .int .u8 0, .int .u8 0, .int .u8 0, .int .u8 0, .int .u8 0, .int .u8 0, .int .u8 0, .int .u8 0, .int .u8 0, .int .u8 0, .int .u8 0, .int .u8 0, .int .u8 0, .int .u8 0, .int .u8 0, .int .u8 0, .int .u8 0, .int .u8 0, .int .u8 0] : Value) 32 32 := SlT.mk' un22 zb22_30 rfl (by decide)
theorem zb47_50 : (Tryz.prog.info? 50).map (fun i => (i.zero, i.size, i.bytes)) = some (some (.agg #[.int .u8 0, .int .u8 0, .int .u8 0, .int .u8 0, .int .u8 0, .int .u8 0, .int .u8 0, .int .u8 0, .int .u8 0, .int .u8 0, .int .u8 0, .int .u8 0, .int .u8 0, .int .u8 0, .int .u8 0, .int .u8 0, .int .u8 0, .int .u8 0, .int .u8 0, .int .u8 0, .int .u8 0, .int .u8 0, .int .u8 0, .int .u8 0, .int .u8 0, .int .u8 0, .int .u8 0, .int .u8 0, .int .u8 0, .int .u8 0, .int .u8 0, .int .u8 0, .int .u8 0, .int .u8 0, .int .u8 0, .string ByteArray.empty] : Value), 36, 56) := by kernel_rfl
theorem sl47 : SlT Tryz.prog 47 50 (.agg #[.int .u8 0, .int .u8 0, .int .u8 0, .int .u8 0, .int .u8 0, .int .u8 0, .int .u8 0, .int .u8 0, .int .u8 0, .int .u8 0, .int .u8 0, .int .u8 0, .int .u8 0, .int .u8 0, .int .u8 0, .int .u8 0, .int .u8 0, .int .u8 0, .int .u8 0, .int .u8 0, .int .u8 0, .int .u8 0, .int .u8 0, .int .u8 0, .int .u8 0, .int .u8 0, .int .u8 0, .int .u8 0, .int .u8 0, .int .u8 0, .int .u8 0, .int .u8 0, .int .u8 0, .int .u8 0, .int .u8 0, .string ByteArray.empty] : Value) 36 56 := SlT.mk' un47 zb47_50 rfl (by decide)
theorem zb58_5 : (Tryz.prog.info? 5).map (fun i => (i.zero, i.size, i.bytes)) = some (some (.int .u8 0 : Value), 1, 1) := by kernel_rfl
theorem sl58 : SlT Tryz.prog 58 5 (.int .u8 0 : Value) 1 1 := SlT.mk' un58 zb58_5 rfl (by decide)
theorem zb75_9 : (Tryz.prog.info? 9).map (fun i => (i.zero, i.size, i.bytes)) = some (some (.string ByteArray.empty : Value), 1, 16) := by kernel_rfl
theorem sl75 : SlT Tryz.prog 75 9 (.string ByteArray.empty : Value) 1 16 := SlT.mk' un75 zb75_9 rfl (by decide)
theorem zb96_100 : (Tryz.prog.info? 100).map (fun i => (i.zero, i.size, i.bytes)) = some (some (.agg #[.int .u8 0, .int .u8 0, .slice none 0 0] : Value), 3, 32) := by kernel_rfl
theorem sl96 : SlT Tryz.prog 96 100 (.agg #[.int .u8 0, .int .u8 0, .slice none 0 0] : Value) 3 32 := SlT.mk' un96 zb96_100 rfl (by decide)
theorem zb98_103 : (Tryz.prog.info? 103).map (fun i => (i.zero, i.size, i.bytes)) = some (some (.agg #[.int .u8 0, .int .u8 0, .int .u8 0, .int .u8 0, .int .u8 0, .int .u8 0, .int .u8 0, .int .u8 0, .int .u8 0, .int .u8 0, .int .u8 0, .int .u8 0, .int .u8 0, .int .u8 0, .int .u8 0, .int .u8 0, .int .u8 0, .int .u8 0, .int .u8 0, .int .u8 0, .int .u8 0, .int .u8 0, .int .u8 0, .int .u8 0, .int .u8 0, .int .u8 0, .int .u8 0, .int .u8 0, .int .u8 0, .int .u8 0, .int .u8 0, .int .u8 0, .int .u8 0] : Value), 33, 33) := by kernel_rfl
theorem sl98 : SlT Tryz.prog 98 103 (.agg #[.int .u8 0, .int .u8 0, .int .u8 0, .int .u8 0, .int .u8 0, .int .u8 0, .int .u8 0, .int .u8 0, .int .u8 0, .int .u8 0, .int .u8 0, .int .u8 0, .int .u8 0, .int .u8 0, .int .u8 0, .int .u8 0, .int .u8 0, .int .u8 0, .int .u8 0, .int .u8 0, .int .u8 0, .int .u8 0, .int .u8 0, .int .u8 0, .int .u8 0, .int .u8 0, .int .u8 0, .int .u8 0, .int .u8 0, .int .u8 0, .int .u8 0, .int .u8 0, .int .u8 0] : Value) 33 33 := SlT.mk' un98 zb98_103 rfl (by decide)
theorem zb121_58 : (Tryz.prog.info? 58).map (fun i => (i.zero, i.size, i.bytes)) = some (some (.slice none 0 0 : Value), 1, 24) := by kernel_rfl
theorem sl121 : SlT Tryz.prog 121 58 (.slice none 0 0 : Value) 1 24 := SlT.mk' un121 zb121_58 rfl (by decide)
theorem zb127_66 : (Tryz.prog.info? 66).map (fun i => (i.zero, i.size, i.bytes)) = some (some (.int .u64 0 : Value), 1, 8) := by kernel_rfl
theorem sl127 : SlT Tryz.prog 127 66 (.int .u64 0 : Value) 1 8 := SlT.mk' un127 zb127_66 rfl (by decide)
theorem en3 : ∀ args w, (callFunc 3 args).run Tryz.prog w = .ok (.enter 3 args) w := enters Tryz.func3 (by kernel_rfl) rfl -- hailer/hailerlaw37.TrustDigits
theorem en4 : ∀ args w, (callFunc 4 args).run Tryz.prog w = .ok (.enter 4 args) w := enters Tryz.func4 (by kernel_rfl) rfl -- hailer/hailerlaw37.TrustMeets
theorem en5 : ∀ args w, (callFunc 5 args).run Tryz.prog w = .ok (.enter 5 args) w := enters Tryz.func5 (by kernel_rfl) rfl -- hailer/hailerlaw37.TrustStays
theorem en6 : ∀ args w, (callFunc 6 args).run Tryz.prog w = .ok (.enter 6 args) w := enters Tryz.func6 (by kernel_rfl) rfl -- hailer/hailerlaw37.known
theorem en7 : ∀ args w, (callFunc 7 args).run Tryz.prog w = .ok (.enter 7 args) w := enters Tryz.func7 (by kernel_rfl) rfl -- hailer/trust.Digits
theorem en8 : ∀ args w, (callFunc 8 args).run Tryz.prog w = .ok (.enter 8 args) w := enters Tryz.func8 (by kernel_rfl) rfl -- hailer/trust.Number
theorem en9 : ∀ args w, (callFunc 9 args).run Tryz.prog w = .ok (.enter 9 args) w := enters Tryz.func9 (by kernel_rfl) rfl -- hailer/hailerref37.Digits
theorem en10 : ∀ args w, (callFunc 10 args).run Tryz.prog w = .ok (.enter 10 args) w := enters Tryz.func10 (by kernel_rfl) rfl -- hailer/hailerref37.Number
theorem en11 : ∀ args w, (callFunc 11 args).run Tryz.prog w = .ok (.enter 11 args) w := enters Tryz.func11 (by kernel_rfl) rfl -- hailer/trust.Spaced
theorem en12 : ∀ args w, (callFunc 12 args).run Tryz.prog w = .ok (.enter 12 args) w := enters Tryz.func12 (by kernel_rfl) rfl -- hailer/hailerref37.Spaced
theorem en13 : ∀ args w, (callFunc 13 args).run Tryz.prog w = .ok (.enter 13 args) w := enters Tryz.func13 (by kernel_rfl) rfl -- hailer/trust.New
theorem en14 : ∀ args w, (callFunc 14 args).run Tryz.prog w = .ok (.enter 14 args) w := enters Tryz.func14 (by kernel_rfl) rfl -- (*hailer/trust.Book).Learn
theorem en15 : ∀ args w, (callFunc 15 args).run Tryz.prog w = .ok (.enter 15 args) w := enters Tryz.func15 (by kernel_rfl) rfl -- hailer/hailerlaw37.dev
theorem en16 : ∀ args w, (callFunc 16 args).run Tryz.prog w = .ok (.enter 16 args) w := enters Tryz.func16 (by kernel_rfl) rfl -- (*hailer/trust.Book).Number
theorem en17 : ∀ args w, (callFunc 17 args).run Tryz.prog w = .ok (.enter 17 args) w := enters Tryz.func17 (by kernel_rfl) rfl -- (*hailer/trust.Book).Verify
theorem en18 : ∀ args w, (callFunc 18 args).run Tryz.prog w = .ok (.enter 18 args) w := enters Tryz.func18 (by kernel_rfl) rfl -- (*hailer/trust.Book).State
theorem en19 : ∀ args w, (callFunc 19 args).run Tryz.prog w = .ok (.enter 19 args) w := enters Tryz.func19 (by kernel_rfl) rfl -- hailer/hailerlaw37.key
theorem en20 : ∀ args w, (callFunc 20 args).run Tryz.prog w = .ok (.enter 20 args) w := enters Tryz.func20 (by kernel_rfl) rfl -- (*hailer/trust.Book).Keys
theorem en21 : ∀ args w, (callFunc 21 args).run Tryz.prog w = .ok (.enter 21 args) w := enters Tryz.func21 (by kernel_rfl) rfl -- (*hailer/trust.Book).Forget
theorem en22 : ∀ args w, (callFunc 22 args).run Tryz.prog w = .ok (.enter 22 args) w := enters Tryz.func22 (by kernel_rfl) rfl -- (*hailer/trust.Book).Accept
theorem en23 : ∀ args w, (callFunc 23 args).run Tryz.prog w = .ok (.enter 23 args) w := enters Tryz.func23 (by kernel_rfl) rfl -- hailer/trust.Load
theorem en24 : ∀ args w, (callFunc 24 args).run Tryz.prog w = .ok (.enter 24 args) w := enters Tryz.func24 (by kernel_rfl) rfl -- (*hailer/trust.Book).Bytes
theorem en25 : ∀ args w, (callFunc 25 args).run Tryz.prog w = .ok (.enter 25 args) w := enters Tryz.func25 (by kernel_rfl) rfl -- hailer/trust.set
theorem en26 : ∀ args w, (callFunc 26 args).run Tryz.prog w = .ok (.enter 26 args) w := enters Tryz.func26 (by kernel_rfl) rfl -- hailer/sha.Sum512
theorem en27 : ∀ args w, (callFunc 27 args).run Tryz.prog w = .ok (.enter 27 args) w := enters Tryz.func27 (by kernel_rfl) rfl -- (*strings.Builder).WriteByte
theorem en28 : ∀ args w, (callFunc 28 args).run Tryz.prog w = .ok (.enter 28 args) w := enters Tryz.func28 (by kernel_rfl) rfl -- (*strings.Builder).String
theorem en29 : ∀ args w, (callFunc 29 args).run Tryz.prog w = .ok (.enter 29 args) w := enters Tryz.func29 (by kernel_rfl) rfl -- hailer/hailerref37.Set
theorem en30 : ∀ args w, (callFunc 30 args).run Tryz.prog w = .ok (.enter 30 args) w := enters Tryz.func30 (by kernel_rfl) rfl -- hailer/hailerref09.Key
theorem en31 : ∀ args w, (callFunc 31 args).run Tryz.prog w = .ok (.enter 31 args) w := enters Tryz.func31 (by kernel_rfl) rfl -- hailer/hailerref01.Sum
theorem en32 : ∀ args w, (callFunc 32 args).run Tryz.prog w = .ok (.enter 32 args) w := enters Tryz.func32 (by kernel_rfl) rfl -- hailer/hailerref09.Of
theorem en33 : ∀ args w, (callFunc 33 args).run Tryz.prog w = .ok (.enter 33 args) w := enters Tryz.func33 (by kernel_rfl) rfl -- slices.Chunk[[]byte,byte]
theorem en34 : ∀ args w, (callFunc 34 args).run Tryz.prog w = .ok (.enter 34 args) w := enters Tryz.func34 (by kernel_rfl) rfl -- strings.Join
theorem en35 : ∀ args w, (callFunc 35 args).run Tryz.prog w = .ok (.enter 35 args) w := enters Tryz.func35 (by kernel_rfl) rfl -- (*hailer/trust.Book).may
theorem en36 : ∀ args w, (callFunc 36 args).run Tryz.prog w = .ok (.enter 36 args) w := enters Tryz.func36 (by kernel_rfl) rfl -- strings.ReplaceAll
theorem en37 : ∀ args w, (callFunc 37 args).run Tryz.prog w = .ok (.enter 37 args) w := enters Tryz.func37 (by kernel_rfl) rfl -- (*hailer/trust.Book).Keys$1
theorem en38 : ∀ args w, (callFunc 38 args).run Tryz.prog w = .ok (.enter 38 args) w := enters Tryz.func38 (by kernel_rfl) rfl -- (*hailer/trust.contact).all
theorem en39 : ∀ args w, (callFunc 39 args).run Tryz.prog w = .ok (.enter 39 args) w := enters Tryz.func39 (by kernel_rfl) rfl -- hailer/wire.NewIn
theorem en40 : ∀ args w, (callFunc 40 args).run Tryz.prog w = .ok (.enter 40 args) w := enters Tryz.func40 (by kernel_rfl) rfl -- (*hailer/wire.In).U8
theorem en41 : ∀ args w, (callFunc 41 args).run Tryz.prog w = .ok (.enter 41 args) w := enters Tryz.func41 (by kernel_rfl) rfl -- hailer/wire.TakeList[hailer/api.Key]
theorem en42 : ∀ args w, (callFunc 42 args).run Tryz.prog w = .ok (.enter 42 args) w := enters Tryz.func42 (by kernel_rfl) rfl -- hailer/trust.takeKey
theorem en43 : ∀ args w, (callFunc 43 args).run Tryz.prog w = .ok (.enter 43 args) w := enters Tryz.func43 (by kernel_rfl) rfl -- hailer/wire.TakeList[hailer/trust.one]
theorem en44 : ∀ args w, (callFunc 44 args).run Tryz.prog w = .ok (.enter 44 args) w := enters Tryz.func44 (by kernel_rfl) rfl -- hailer/trust.Load$1
theorem en45 : ∀ args w, (callFunc 45 args).run Tryz.prog w = .ok (.enter 45 args) w := enters Tryz.func45 (by kernel_rfl) rfl -- hailer/wire.TakeList[hailer/trust.known]
theorem en46 : ∀ args w, (callFunc 46 args).run Tryz.prog w = .ok (.enter 46 args) w := enters Tryz.func46 (by kernel_rfl) rfl -- hailer/trust.Load$1$1
theorem en47 : ∀ args w, (callFunc 47 args).run Tryz.prog w = .ok (.enter 47 args) w := enters Tryz.func47 (by kernel_rfl) rfl -- (*hailer/wire.In).End
theorem en48 : ∀ args w, (callFunc 48 args).run Tryz.prog w = .ok (.enter 48 args) w := enters Tryz.func48 (by kernel_rfl) rfl -- bytes.Equal
theorem en49 : ∀ args w, (callFunc 49 args).run Tryz.prog w = .ok (.enter 49 args) w := enters Tryz.func49 (by kernel_rfl) rfl -- hailer/wire.NewOut
theorem en50 : ∀ args w, (callFunc 50 args).run Tryz.prog w = .ok (.enter 50 args) w := enters Tryz.func50 (by kernel_rfl) rfl -- (*hailer/wire.Out).U8
theorem en51 : ∀ args w, (callFunc 51 args).run Tryz.prog w = .ok (.enter 51 args) w := enters Tryz.func51 (by kernel_rfl) rfl -- hailer/wire.PutList[hailer/api.Key]
theorem en52 : ∀ args w, (callFunc 52 args).run Tryz.prog w = .ok (.enter 52 args) w := enters Tryz.func52 (by kernel_rfl) rfl -- hailer/trust.putKey
theorem en53 : ∀ args w, (callFunc 53 args).run Tryz.prog w = .ok (.enter 53 args) w := enters Tryz.func53 (by kernel_rfl) rfl -- hailer/wire.PutList[hailer/trust.one]
theorem en54 : ∀ args w, (callFunc 54 args).run Tryz.prog w = .ok (.enter 54 args) w := enters Tryz.func54 (by kernel_rfl) rfl -- (*hailer/trust.Book).Bytes$1
theorem en55 : ∀ args w, (callFunc 55 args).run Tryz.prog w = .ok (.enter 55 args) w := enters Tryz.func55 (by kernel_rfl) rfl -- hailer/wire.PutList[hailer/trust.known]
theorem en56 : ∀ args w, (callFunc 56 args).run Tryz.prog w = .ok (.enter 56 args) w := enters Tryz.func56 (by kernel_rfl) rfl -- (*hailer/trust.Book).Bytes$1$1
theorem en57 : ∀ args w, (callFunc 57 args).run Tryz.prog w = .ok (.enter 57 args) w := enters Tryz.func57 (by kernel_rfl) rfl -- (*hailer/wire.Out).Bytes
theorem en58 : ∀ args w, (callFunc 58 args).run Tryz.prog w = .ok (.enter 58 args) w := enters Tryz.func58 (by kernel_rfl) rfl -- slices.Clone[[]hailer/api.Key,hailer/api.Key]
theorem en59 : ∀ args w, (callFunc 59 args).run Tryz.prog w = .ok (.enter 59 args) w := enters Tryz.func59 (by kernel_rfl) rfl -- slices.SortFunc[[]hailer/api.Key,hailer/api.Key]
theorem en60 : ∀ args w, (callFunc 60 args).run Tryz.prog w = .ok (.enter 60 args) w := enters Tryz.func60 (by kernel_rfl) rfl -- hailer/trust.order
theorem en61 : ∀ args w, (callFunc 61 args).run Tryz.prog w = .ok (.enter 61 args) w := enters Tryz.func61 (by kernel_rfl) rfl -- slices.Compact[[]hailer/api.Key,hailer/api.Key]
theorem en62 : ∀ args w, (callFunc 62 args).run Tryz.prog w = .ok (.enter 62 args) w := enters Tryz.func62 (by kernel_rfl) rfl -- hailer/sha.wide
theorem en63 : ∀ args w, (callFunc 63 args).run Tryz.prog w = .ok (.enter 63 args) w := enters Tryz.func63 (by kernel_rfl) rfl -- (*hailer/sha.machine[uint64]).sum
theorem en64 : ∀ args w, (callFunc 64 args).run Tryz.prog w = .ok (.enter 64 args) w := enters Tryz.func64 (by kernel_rfl) rfl -- (*strings.Builder).copyCheck
theorem en65 : ∀ args w, (callFunc 65 args).run Tryz.prog w = .ok (.enter 65 args) w := enters Tryz.func65 (by kernel_rfl) rfl -- hailer/hailerref37.less
theorem en66 : ∀ args w, (callFunc 66 args).run Tryz.prog w = .ok (.enter 66 args) w := enters Tryz.func66 (by kernel_rfl) rfl -- hailer/hailerref01.First
theorem en67 : ∀ args w, (callFunc 67 args).run Tryz.prog w = .ok (.enter 67 args) w := enters Tryz.func67 (by kernel_rfl) rfl -- hailer/hailerref01.Constants
theorem en68 : ∀ args w, (callFunc 68 args).run Tryz.prog w = .ok (.enter 68 args) w := enters Tryz.func68 (by kernel_rfl) rfl -- hailer/hailerref01.power
theorem en69 : ∀ args w, (callFunc 69 args).run Tryz.prog w = .ok (.enter 69 args) w := enters Tryz.func69 (by kernel_rfl) rfl -- hailer/hailerref01.padded
theorem en70 : ∀ args w, (callFunc 70 args).run Tryz.prog w = .ok (.enter 70 args) w := enters Tryz.func70 (by kernel_rfl) rfl -- hailer/hailerref01.cut
theorem en71 : ∀ args w, (callFunc 71 args).run Tryz.prog w = .ok (.enter 71 args) w := enters Tryz.func71 (by kernel_rfl) rfl -- hailer/hailerref01.four
theorem en72 : ∀ args w, (callFunc 72 args).run Tryz.prog w = .ok (.enter 72 args) w := enters Tryz.func72 (by kernel_rfl) rfl -- hailer/hailerref01.round
theorem en73 : ∀ args w, (callFunc 73 args).run Tryz.prog w = .ok (.enter 73 args) w := enters Tryz.func73 (by kernel_rfl) rfl -- slices.Chunk[[]byte,byte]$1
theorem en74 : ∀ args w, (callFunc 74 args).run Tryz.prog w = .ok (.enter 74 args) w := enters Tryz.func74 (by kernel_rfl) rfl -- (*strings.Builder).Grow
theorem en75 : ∀ args w, (callFunc 75 args).run Tryz.prog w = .ok (.enter 75 args) w := enters Tryz.func75 (by kernel_rfl) rfl -- (*strings.Builder).WriteString
theorem en76 : ∀ args w, (callFunc 76 args).run Tryz.prog w = .ok (.enter 76 args) w := enters Tryz.func76 (by kernel_rfl) rfl -- strings.Replace
theorem en77 : ∀ args w, (callFunc 77 args).run Tryz.prog w = .ok (.enter 77 args) w := enters Tryz.func77 (by kernel_rfl) rfl -- (*hailer/wire.In).next
theorem en78 : ∀ args w, (callFunc 78 args).run Tryz.prog w = .ok (.enter 78 args) w := enters Tryz.func78 (by kernel_rfl) rfl -- (*hailer/wire.In).many
theorem en79 : ∀ args w, (callFunc 79 args).run Tryz.prog w = .ok (.enter 79 args) w := enters Tryz.func79 (by kernel_rfl) rfl -- (*hailer/wire.In).Fixed
theorem en80 : ∀ args w, (callFunc 80 args).run Tryz.prog w = .ok (.enter 80 args) w := enters Tryz.func80 (by kernel_rfl) rfl -- (*hailer/wire.Out).put
theorem en81 : ∀ args w, (callFunc 81 args).run Tryz.prog w = .ok (.enter 81 args) w := enters Tryz.func81 (by kernel_rfl) rfl -- (*hailer/wire.Out).many
theorem en82 : ∀ args w, (callFunc 82 args).run Tryz.prog w = .ok (.enter 82 args) w := enters Tryz.func82 (by kernel_rfl) rfl -- (*hailer/wire.Out).Fixed
theorem en83 : ∀ args w, (callFunc 83 args).run Tryz.prog w = .ok (.enter 83 args) w := enters Tryz.func83 (by kernel_rfl) rfl -- slices.pdqsortCmpFunc[hailer/api.Key]
theorem en84 : ∀ args w, (callFunc 84 args).run Tryz.prog w = .ok (.enter 84 args) w := enters Tryz.func84 (by kernel_rfl) rfl -- math/bits.Len
theorem en85 : ∀ args w, (callFunc 85 args).run Tryz.prog w = .ok (.enter 85 args) w := enters Tryz.func85 (by kernel_rfl) rfl -- bytes.Compare
theorem en86 : ∀ args w, (callFunc 86 args).run Tryz.prog w = .ok (.enter 86 args) w := enters Tryz.func86 (by kernel_rfl) rfl -- hailer/sha.first
theorem en87 : ∀ args w, (callFunc 87 args).run Tryz.prog w = .ok (.enter 87 args) w := enters Tryz.func87 (by kernel_rfl) rfl -- hailer/sha.constants
theorem en88 : ∀ args w, (callFunc 88 args).run Tryz.prog w = .ok (.enter 88 args) w := enters Tryz.func88 (by kernel_rfl) rfl -- (*hailer/sha.machine[uint64]).block
theorem en90 : ∀ args w, (callFunc 90 args).run Tryz.prog w = .ok (.enter 90 args) w := enters Tryz.func90 (by kernel_rfl) rfl -- hailer/hailerref01.mix
theorem en91 : ∀ args w, (callFunc 91 args).run Tryz.prog w = .ok (.enter 91 args) w := enters Tryz.func91 (by kernel_rfl) rfl -- (*strings.Builder).grow
theorem en92 : ∀ args w, (callFunc 92 args).run Tryz.prog w = .ok (.enter 92 args) w := enters Tryz.func92 (by kernel_rfl) rfl -- strings.Count
theorem en93 : ∀ args w, (callFunc 93 args).run Tryz.prog w = .ok (.enter 93 args) w := enters Tryz.func93 (by kernel_rfl) rfl -- strings.Index
theorem en95 : ∀ args w, (callFunc 95 args).run Tryz.prog w = .ok (.enter 95 args) w := enters Tryz.func95 (by kernel_rfl) rfl -- (*hailer/wire.In).take
theorem en96 : ∀ args w, (callFunc 96 args).run Tryz.prog w = .ok (.enter 96 args) w := enters Tryz.func96 (by kernel_rfl) rfl -- hailer/wire.number[uint16]
theorem en97 : ∀ args w, (callFunc 97 args).run Tryz.prog w = .ok (.enter 97 args) w := enters Tryz.func97 (by kernel_rfl) rfl -- slices.insertionSortCmpFunc[hailer/api.Key]
theorem en98 : ∀ args w, (callFunc 98 args).run Tryz.prog w = .ok (.enter 98 args) w := enters Tryz.func98 (by kernel_rfl) rfl -- slices.heapSortCmpFunc[hailer/api.Key]
theorem en99 : ∀ args w, (callFunc 99 args).run Tryz.prog w = .ok (.enter 99 args) w := enters Tryz.func99 (by kernel_rfl) rfl -- slices.breakPatternsCmpFunc[hailer/api.Key]
theorem en100 : ∀ args w, (callFunc 100 args).run Tryz.prog w = .ok (.enter 100 args) w := enters Tryz.func100 (by kernel_rfl) rfl -- slices.choosePivotCmpFunc[hailer/api.Key]
theorem en101 : ∀ args w, (callFunc 101 args).run Tryz.prog w = .ok (.enter 101 args) w := enters Tryz.func101 (by kernel_rfl) rfl -- slices.reverseRangeCmpFunc[hailer/api.Key]
theorem en102 : ∀ args w, (callFunc 102 args).run Tryz.prog w = .ok (.enter 102 args) w := enters Tryz.func102 (by kernel_rfl) rfl -- slices.partialInsertionSortCmpFunc[hailer/api.Key]
theorem en103 : ∀ args w, (callFunc 103 args).run Tryz.prog w = .ok (.enter 103 args) w := enters Tryz.func103 (by kernel_rfl) rfl -- slices.partitionEqualCmpFunc[hailer/api.Key]
theorem en104 : ∀ args w, (callFunc 104 args).run Tryz.prog w = .ok (.enter 104 args) w := enters Tryz.func104 (by kernel_rfl) rfl -- slices.partitionCmpFunc[hailer/api.Key]
theorem en105 : ∀ args w, (callFunc 105 args).run Tryz.prog w = .ok (.enter 105 args) w := enters Tryz.func105 (by kernel_rfl) rfl -- math/bits.Len32
theorem en106 : ∀ args w, (callFunc 106 args).run Tryz.prog w = .ok (.enter 106 args) w := enters Tryz.func106 (by kernel_rfl) rfl -- math/bits.Len64
theorem en108 : ∀ args w, (callFunc 108 args).run Tryz.prog w = .ok (.enter 108 args) w := enters Tryz.func108 (by kernel_rfl) rfl -- (*hailer/sha.machine[uint64]).small
theorem en109 : ∀ args w, (callFunc 109 args).run Tryz.prog w = .ok (.enter 109 args) w := enters Tryz.func109 (by kernel_rfl) rfl -- (*hailer/sha.machine[uint64]).big
theorem en110 : ∀ args w, (callFunc 110 args).run Tryz.prog w = .ok (.enter 110 args) w := enters Tryz.func110 (by kernel_rfl) rfl -- hailer/hailerref01.turn
theorem en116 : ∀ args w, (callFunc 116 args).run Tryz.prog w = .ok (.enter 116 args) w := enters Tryz.func116 (by kernel_rfl) rfl -- slices.siftDownCmpFunc[hailer/api.Key]
theorem en117 : ∀ args w, (callFunc 117 args).run Tryz.prog w = .ok (.enter 117 args) w := enters Tryz.func117 (by kernel_rfl) rfl -- slices.nextPowerOfTwo
theorem en119 : ∀ args w, (callFunc 119 args).run Tryz.prog w = .ok (.enter 119 args) w := enters Tryz.func119 (by kernel_rfl) rfl -- slices.medianAdjacentCmpFunc[hailer/api.Key]
theorem en120 : ∀ args w, (callFunc 120 args).run Tryz.prog w = .ok (.enter 120 args) w := enters Tryz.func120 (by kernel_rfl) rfl -- slices.medianCmpFunc[hailer/api.Key]
theorem en121 : ∀ args w, (callFunc 121 args).run Tryz.prog w = .ok (.enter 121 args) w := enters Tryz.func121 (by kernel_rfl) rfl -- (*hailer/sha.machine[uint64]).turn
theorem en126 : ∀ args w, (callFunc 126 args).run Tryz.prog w = .ok (.enter 126 args) w := enters Tryz.func126 (by kernel_rfl) rfl -- slices.order2CmpFunc[hailer/api.Key]
end Go.Proofs.YtfobhdmhjjafcaaGreatDoorRR
