/- The chapter's rows, texts joined, whether they are great: the walks. -/
import Derived.Test.YtjiolckgjfaapaaShaH
namespace Go.Proofs.Ytjiolckgjfaapaa
open Go Go.RowKit

theorem Reads.len {c : Cx} {H : List Res} {v : Value} {n m : Nat} {cs : List Value} (h : Reads c H v 1 n cs) (e : n = m) : Reads c H v 1 m cs := e ▸ h
theorem hls1 {w : World} {T : Pm} {v : Value} {bs : List Int} (h : RdS w T v 1 bs.length (ints .u8 bs)) : ∀ (i : Nat) (v' : Value) (c' : List Int), [v][i]? = some v' → [bs][i]? = some c' → RdS w T v' 1 c'.length (ints .u8 c') := by
  intro i v' c' h1 h2
  cases i with
  | zero => simp at h1 h2; subst h1 h2; exact h
  | succ i => simp at h1

theorem known_any (w : World) (hw : OK w (fpL []) [] w) : Fn Try.prog 5 [] [] w (fun _ : Unit => True) (fun _ => .bool true) (fun _ => []) := by
  refine enterF Try.func5 rfl Try.ntmps5 rfl hw ?_
  refine WC.seq ?_
  refine WC.region ?_
  refine WL.y (Yl.assign rfl) rfl ?_ -- t0
  refine WL.nil ?_
  refine WC.seq ?_
  refine WC.region ?_
  refine WL.to (To.buildSlice (vs := [.int .u8 97, .int .u8 98, .int .u8 99]) un25 zs5 rfl rfl (by simp [Value.cells]) (by decide) (by decide)) rfl ?_ -- t3
  intro b3
  refine WL.to (To.convMark un25 un5 rfl (by repeat (first | exact Take1.head | apply Take1.tail)) rfl (by unfold maxLen; omega)) rfl ?_
  rintro ⟨⟩
  refine WL.to (To.buildSlice (vs := [.slice (some ⟨b3, 0, none⟩) 3 3]) un22 zs25 rfl rfl (by simp [Value.cells]) (by decide) (by decide)) rfl ?_ -- t5
  intro b5
  refine WL.callC (xs := [.tmp 5]) (cap := []) rfl rfl en8 (by repeat (first | exact TakeL.nil | (apply TakeL.cons; · repeat (first | exact Take1.head | apply Take1.tail)))) (fun w hw => sum256_any [[97, 98, 99]] [.slice (some ⟨b3, 0, none⟩) 3 3] (.slice (some ⟨b5, 0, none⟩) 1 1) rfl (by simp) (by simp) w (hw.src (A := []) (RdOf.blk (size := 1) (cs := [.slice (some ⟨b3, 0, none⟩) 3 3]) (Nat.le_refl _) (by unfold maxLen; omega) (by simp) rfl) (by repeat (first | exact Take1.head | apply Take1.tail))) (hls1 (hw.src (A := []) (RdOf.rd' (v := .slice (some ⟨b3, 0, none⟩) 3 3)) (by repeat (first | exact Take1.head | apply Take1.tail)))) hw.left.here) rfl ?_ -- t6 hailer/sha.Sum256
  rintro ⟨⟩ -
  refine WL.to (To.buildSlice (vs := [.int .u8 97, .int .u8 98, .int .u8 99]) un25 zs5 rfl rfl (by simp [Value.cells]) (by decide) (by decide)) rfl ?_ -- t7
  intro b7
  refine WL.to (To.convMark un25 un5 rfl (by repeat (first | exact Take1.head | apply Take1.tail)) rfl (by unfold maxLen; omega)) rfl ?_
  rintro ⟨⟩
  refine WL.to (To.buildSlice (vs := [.slice (some ⟨b7, 0, none⟩) 3 3]) un22 zs25 rfl rfl (by simp [Value.cells]) (by decide) (by decide)) rfl ?_ -- t9
  intro b9
  refine WL.callC (xs := [.tmp 9]) (cap := []) rfl rfl en9 (by repeat (first | exact TakeL.nil | (apply TakeL.cons; · repeat (first | exact Take1.head | apply Take1.tail)))) (fun w hw => sum512_any [[97, 98, 99]] [.slice (some ⟨b7, 0, none⟩) 3 3] (.slice (some ⟨b9, 0, none⟩) 1 1) rfl (by simp) (by simp) w (hw.src (A := []) (RdOf.blk (size := 1) (cs := [.slice (some ⟨b7, 0, none⟩) 3 3]) (Nat.le_refl _) (by unfold maxLen; omega) (by simp) rfl) (by repeat (first | exact Take1.head | apply Take1.tail))) (hls1 (hw.src (A := []) (RdOf.rd' (v := .slice (some ⟨b7, 0, none⟩) 3 3)) (by repeat (first | exact Take1.head | apply Take1.tail)))) hw.left.here) rfl ?_ -- t10 hailer/sha.Sum512
  rintro ⟨⟩ -
  rw [show ([[97, 98, 99]] : List (List Int)).flatten = [97, 98, 99] from rfl]
  refine WL.to (To.alloc zr27 rfl) rfl ?_ -- t1
  intro b1
  refine WL.to (To.alloc zr29 rfl) rfl ?_ -- t2
  intro b2
  refine WL.sto (Sto.agg sz27 rfl rfl (by repeat (first | exact Take1.head | apply Take1.tail)) (ints_one _ _) (by rw [ints_length, sum256_len]) (by rfl) (putAll rfl)) (fun _ h => nomatch h) ?_ -- st 1
  refine WL.sto (Sto.agg sz29 rfl rfl (by repeat (first | exact Take1.head | apply Take1.tail)) (ints_one _ _) (by rw [ints_length, sum512_len]) (by rfl) (putAll rfl)) (fun _ h => nomatch h) ?_ -- st 2
  refine WL.nil ?_
  refine WC.seq ?_
  refine WC.region ?_
  refine WL.y (Yl.sliceArr un27 sz5 (by decide) rfl) rfl ?_ -- t11
  refine WL.y (Yl.toStr un25 un5 un9 rfl ((Reads.of (RdOf.blk (b := b1) (off := 0) (n := 32) (cap := 32) (size := 1) (cs := ints .u8 (sum256 [97, 98, 99])) (cs' := ints .u8 (sum256 [97, 98, 99])) (Nat.le_refl _) (by unfold maxLen; omega) (by rw [ints_length, sum256_len]; omega) (by rw [List.drop_zero, List.take_of_length_le (by rw [ints_length, sum256_len]; omega)])) (by repeat (first | exact Take1.head | apply Take1.tail))).len (sum256_len _).symm)) rfl ?_ -- t12
  refine WL.y (Yl.sEq rfl rfl) rfl ?_ -- t13
  refine WL.know (t := 13) (b' := true) rfl (by rw [abc256]; decide +kernel) ?_
  refine WL.y (Yl.move rfl) rfl ?_ -- t14
  refine WL.on rfl rfl ?_
  refine WL.y (Yl.sliceArr un29 sz5 (by decide) rfl) rfl ?_ -- t15
  refine WL.on rfl rfl ?_
  refine WL.y (Yl.toStr un25 un5 un9 rfl ((Reads.of (RdOf.blk (b := b2) (off := 0) (n := 64) (cap := 64) (size := 1) (cs := ints .u8 (sum512 [97, 98, 99])) (cs' := ints .u8 (sum512 [97, 98, 99])) (Nat.le_refl _) (by unfold maxLen; omega) (by rw [ints_length, sum512_len]; omega) (by rw [List.drop_zero, List.take_of_length_le (by rw [ints_length, sum512_len]; omega)])) (by repeat (first | exact Take1.head | apply Take1.tail))).len (sum512_len _).symm)) rfl ?_ -- t16
  refine WL.on rfl rfl ?_
  refine WL.y (Yl.sEq rfl rfl) rfl ?_ -- t17
  refine WL.know (t := 17) (b' := true) rfl (by rw [abc512]; decide +kernel) ?_
  refine WL.y (Yl.pickT rfl rfl) rfl ?_ -- t18
  refine WL.y (Yl.assign rfl) rfl ?_ -- t0
  refine WL.nil ?_
  refine WC.ret ?_
  repeat (first | (with_reducible refine peelT ?_) | (with_reducible refine peelB ?_) | (with_reducible refine peelTX ?_) | (with_reducible refine peelBX ?_) | (with_reducible refine peelBN ?_) | (with_reducible refine peelBO rfl ?_))
  exact ret1 (.inr rfl) Try.results5 rfl fun w' h => ⟨(), trivial, rfl, h.sub (by repeat (first | exact TakeL.nil | (apply TakeL.cons; · repeat (first | exact Take1.head | apply Take1.tail))))⟩

theorem join_any (ls : List (List Int)) (vs : List Value) (lv : Value) (hvl : vs.length = ls.length) (htot : ls.flatten.length ≤ 100000) (hmany : ls.length ≤ 100000) (w : World)
    (hlv : RdS w (fpL []) lv 1 ls.length vs) (hls : ∀ (i : Nat) v bs, vs[i]? = some v → ls[i]? = some bs → RdS w (fpL []) v 1 bs.length (ints .u8 bs)) (hw : OK w (fpL []) [] w) :
    Fn Try.prog 7 [lv] [] w (fun _ : Option Addr × Nat => True) (fun y => .slice y.1 ls.flatten.length y.2) (fun y => [ownR (.slice y.1 ls.flatten.length y.2) 5 1 ls.flatten.length (ints .u8 ls.flatten)]) := by
  obtain ⟨la, lc, rfl, hlcl, hlml⟩ := hlv.rd.form
  refine enterF Try.func7 rfl Try.ntmps7 rfl hw ?_
  refine WC.seq ?_
  refine WC.region ?_
  refine WL.y (Yl.assign rfl) rfl ?_ -- t2
  refine WL.nil ?_
  refine WC.seq ?_
  refine WC.region ?_
  refine WL.y (Yl.assign rfl) rfl ?_ -- t3
  refine WL.nil ?_
  refine WC.seq ?_
  refine WC.seq ?_
  refine WC.region ?_
  refine WL.y (Yl.assign rfl) rfl ?_ -- t4
  refine WL.nil ?_
  refine WC.block ?_
  refine WC.view (fun w h => h.addNil 5 1) ?_
  refine WC.loop (α := Nat × (Option Addr × Nat)) (fun p => [(0, .slice la ls.length lc), (3, .slice p.2.1 (ls.take p.1).flatten.length p.2.2), (4, .int .i64 (p.1 : Int))]) (fun p => [ownR (.slice p.2.1 (ls.take p.1).flatten.length p.2.2) 5 1 (ls.take p.1).flatten.length (ints .u8 (ls.take p.1).flatten)]) (fun p => p.1 ≤ ls.length) (fun p => ls.length - p.1) (0, (none, 0)) (Nat.zero_le _) ⟨(by repeat (first | exact Sub.nil | refine Sub.cons rfl ?_)), _, (by repeat (first | exact TakeL.nil | (apply TakeL.cons; · repeat (first | exact Take1.head | apply Take1.tail))))⟩ ?_
  rintro ⟨i, ⟨ao, ac⟩⟩ hi
  dsimp only at hi ⊢
  refine WC.seq ?_
  refine WC.seq ?_
  refine WC.region ?_
  refine WL.y (Yl.move rfl) rfl ?_ -- t5
  refine WL.y (Yl.move rfl) rfl ?_ -- t6
  refine WL.y (Yl.len un22 rfl) rfl ?_ -- t7
  refine WL.y (Yl.lss rfl rfl) rfl ?_ -- t8
  refine WL.nil ?_
  refine WC.condD rfl (fun g8 => ?_) (fun g8 => ?_)
  · refine WC.skip ?_
    refine WC.seq ?_
    refine WC.block ?_
    refine WC.region ?_
    obtain ⟨bv, hbv⟩ : ∃ v, vs[i]? = some v := ⟨_, List.getElem?_eq_getElem (by omega)⟩
    obtain ⟨bs, hbs⟩ : ∃ b, ls[i]? = some b := ⟨_, List.getElem?_eq_getElem (by omega)⟩
    have hx := hls i bv bs hbv hbs
    have hnext := flat_take hbs
    have hnl := flat_le (ls := ls) (i + 1)
    have hnl2 : (ls.take (i + 1)).flatten.length = (ls.take i).flatten.length + bs.length := by rw [hnext, List.length_append]
    refine WL.y (Yl.move rfl) rfl ?_ -- t11
    refine WL.y (Yl.move rfl) rfl ?_ -- t12
    refine WL.y (Yl.move rfl) rfl ?_ -- t13
    refine WL.y (Yl.index un22 sz25 rfl rfl (Reads.s hlv) rfl (by omega)) rfl ?_ -- t14
    refine WL.y (Yl.loadE on25 rfl (Reads.s hlv) hbv) rfl ?_ -- t15
    refine WL.to (To.append sl25 rfl rfl (by repeat (first | exact Take1.head | apply Take1.tail)) (Reads.s hx) (ints_one _ _) hnl2.symm (show _ = ints .u8 (ls.take (i + 1)).flatten by rw [hnext]; simp [ints]) (by unfold maxLen; omega) (by omega)) rfl ?_ -- t16
    rintro ⟨⟨ao16, c16⟩, hc16⟩
    dsimp only at hc16 ⊢
    refine WL.y (Yl.assign rfl) rfl ?_ -- t3
    refine WL.nil ?_
    refine WC.region ?_
    refine WL.y (Yl.move rfl) rfl ?_ -- t9
    refine WL.y (Yl.add rfl rfl (IntWalk.i64_in _ (by omega))) rfl ?_ -- t10
    refine WL.y (Yl.assign rfl) rfl ?_ -- t4
    refine WL.nil ?_
    exact ⟨rfl, (i + 1, ao16, c16), by dsimp only; omega, by dsimp only; omega, (by repeat (first | exact Sub.nil | refine Sub.cons rfl ?_)), _, (by repeat (first | exact TakeL.nil | (apply TakeL.cons; · repeat (first | exact Take1.head | apply Take1.tail))))⟩
  · refine WC.exit ?_
    refine WC.seq ?_
    refine WC.region ?_
    refine WL.y (Yl.move rfl) rfl ?_ -- t17
    refine WL.y (Yl.assign rfl) rfl ?_ -- t2
    refine WL.nil ?_
    refine WC.ret ?_
    repeat (first | (with_reducible refine peelT ?_) | (with_reducible refine peelB ?_) | (with_reducible refine peelTX ?_) | (with_reducible refine peelBX ?_) | (with_reducible refine peelBN ?_) | (with_reducible refine peelBO rfl ?_))
    have hil : i = ls.length := by omega
    subst hil
    rw [← show (ls.take ls.length).flatten = ls.flatten by rw [List.take_length]]
    exact ret1 (.inr rfl) Try.results7 rfl fun w' h => ⟨(ao, ac), trivial, rfl, h.sub (by repeat (first | exact TakeL.nil | (apply TakeL.cons; · repeat (first | exact Take1.head | apply Take1.tail))))⟩
end Go.Proofs.Ytjiolckgjfaapaa
