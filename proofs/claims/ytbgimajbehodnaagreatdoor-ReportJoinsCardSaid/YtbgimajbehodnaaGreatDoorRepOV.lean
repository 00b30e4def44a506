/- The keys of a map of sums by uint64: the walk. -/
import Derived.Test.YtbgimajbehodnaaGreatDoorRepM
import Derived.Test.YtbgimajbehodnaaGreatDoorSoLV
namespace Go.Proofs.YtbgimajbehodnaaGreatDoor
open Go Go.RowKit

set_option maxRecDepth 100000 in
theorem keys1V_iter (b1 bm : Nat) (m : List (Int × Sm)) (w : World) (hA : OK w (fpL [roR (blkR b1 108 [.map (some bm)]), roR (mapR (Value.int .u64) smV bm m)]) [roR (blkR b1 108 [.map (some bm)]), roR (mapR (Value.int .u64) smV bm m)] w) :
    IterP Tryz.prog 90 ([.pointer (some ⟨b1, 0, none⟩)] : List Value).toArray (fpL [roR (blkR b1 108 [.map (some bm)]), roR (mapR (Value.int .u64) smV bm m)]).rd (ksY .u64 m) w := by
  have hwr : ∀ r ∈ [roR (blkR b1 108 [.map (some bm)]), roR (mapR (Value.int .u64) smV bm m)], ∀ k, ¬ r.wr k := by
    intro r hr k hk
    simp at hr
    rcases hr with rfl | rfl <;> exact hk
  refine iter_ofP Tryz.func90 rfl Tryz.ntmps90 rfl hA hwr ?_
  intro l W g gx T0 hy
  refine WC.seq ?_
  refine WC.region ?_
  refine WL.y (Yl.loadRo on108 rfl (by repeat constructor) (by rfl)) rfl ?_
  refine WL.to (To.rangeM un108 rfl (by repeat constructor)) rfl ?_
  intro r5
  refine WL.nil ?_
  refine WC.block ?_
  refine WC.loop (α := List Nat × (Nat → Prop)) (fun _ => [(0, .func (.yield l) #[] #[]), (5, .pointer (some ⟨r5, 0, none⟩))]) (fun p => [gstP g (p.1.map (kAt .u64 m)) p.2, rngR (Value.int .u64) smV bm r5 m p.1, roR (blkR b1 108 [.map (some bm)]), roR (mapR (Value.int .u64) smV bm m)]) (fun p => p.1.Nodup ∧ ∀ j ∈ p.1, j < m.length) (fun p => m.length - p.1.length) ([], T0) ⟨List.nodup_nil, fun _ h => nomatch h⟩ ⟨(by repeat' constructor), _, (by repeat' constructor)⟩ ?_
  rintro ⟨done, T⟩ ⟨hdn, hdb⟩
  dsimp only at hdn hdb ⊢
  refine WC.seq ?_
  refine WC.region ?_
  refine WL.to (To.nextM (m := m) (done := done) (kv := Value.int .u64) (vv := smV) rfl (by repeat constructor)) rfl ?_
  rintro ⟨o, ho1, ho2⟩
  dsimp only
  refine WL.y (Yl.extract (v := .bool o.isSome) rfl (nx_get o)) rfl ?_
  refine WL.nil ?_
  refine WC.seq ?_
  refine WC.cond rfl (fun g7 => ?_) (fun g7 => ?_)
  · refine WC.skip ?_
    refine WC.block ?_
    refine WC.seq ?_
    obtain ⟨j, rfl⟩ := Option.isSome_iff_exists.1 g7
    obtain ⟨p, hp, hjd⟩ := ho1 j rfl
    have hjm := (List.getElem?_eq_some_iff.1 hp).1
    have hdn' : (done ++ [j]).Nodup := List.nodup_append.2 ⟨hdn, by simp, fun a ha b hb' e => by simp at hb'; subst hb'; subst e; exact hjd ha⟩
    have hdb' : ∀ x ∈ done ++ [j], x < m.length := fun x hx => by
      rcases List.mem_append.1 hx with hx | hx
      · exact hdb x hx
      · rw [List.mem_singleton.1 hx]; exact hjm
    have hle := done_le hdn' hdb'
    rw [List.length_append, List.length_singleton] at hle
    have hkj : kAt .u64 m j = #[.int .u64 p.1] := by simp [kAt, hp]
    simp only [Option.toList_some]
    refine WC.region ?_
    refine WL.y (Yl.entryM (m := m) (done := done) (j := j) (kv := Value.int .u64) (vv := smV) rfl (by repeat constructor) hp) rfl ?_
    refine WL.y (Yl.extract rfl rfl) rfl ?_
    refine WL.y (Yl.assign rfl) rfl ?_
    refine WL.nil ?_
    refine WC.seq ?_
    refine WC.region ?_
    refine WL.y (Yl.move rfl) rfl ?_
    refine WL.y (Yl.move rfl) rfl ?_
    refine WL.yieldP (xs := [.tmp 11]) (i := done.map (kAt .u64 m)) hy rfl rfl (ks_rest hdn hdb hjd hp) (by repeat constructor) rfl ?_
    intro b12 T'
    refine WL.y (Yl.not rfl) rfl ?_
    refine WL.nil ?_
    refine WC.cond rfl (fun g13 => ?_) (fun g13 => ?_)
    · refine WC.ret ?_
      repeat (with_reducible (first | refine peelT ?_ | refine peelB ?_ | refine peelTX ?_ | refine peelBX ?_ | refine peelBN ?_ | refine peelBO rfl ?_))
      have hb : b12 = false := by simpa using g13
      subst hb
      simp only [Bool.false_eq_true, if_false]
      exact itStopP (.inr rfl) Tryz.results90 (by repeat constructor)
    · refine WC.skip ?_
      have hb : b12 = true := by simpa using g13
      subst hb
      simp only [if_true]
      exact ⟨rfl, (done ++ [j], T'), ⟨hdn', hdb'⟩, by dsimp only; rw [List.length_append, List.length_singleton]; omega, (by repeat' constructor), _, by dsimp only; rw [List.map_append, List.map_singleton, hkj]; exact (by repeat' constructor)⟩
  · refine WC.exit ?_
    repeat (with_reducible (first | refine peelT ?_ | refine peelB ?_ | refine peelTX ?_ | refine peelBX ?_ | refine peelBN ?_ | refine peelBO rfl ?_))
    obtain rfl : o = none := by cases o with | none => rfl | some j => cases g7
    have hall := ho2 rfl
    have hpm : (done.map (kAt .u64 m)).Perm (ksY .u64 m) := by
      rw [← ksY_eq]
      exact List.Perm.map _ ((List.perm_ext_iff_of_nodup hdn List.nodup_range).2 fun x => ⟨fun hx => List.mem_range.2 (hdb x hx), fun hx => hall x (List.mem_range.1 hx)⟩)
    exact itEndP (.inl rfl) Tryz.results90 (by repeat constructor) hpm
end Go.Proofs.YtbgimajbehodnaaGreatDoor

namespace Go.Proofs.YtbgimajbehodnaaGreatDoor
open Go Go.RowKit

set_option maxRecDepth 100000 in
theorem appSeqV_any (gf : Nat) (lb : List Value) (own : Nat → Prop) (zs : List Int) (hz : zs.length ≤ 1000000) (eg : ∀ args w, (callFunc gf args).run Tryz.prog w = .ok (.enter gf args) w) (w : World) (hw : OK w (fpL [itP Tryz.prog gf lb own (zs.map (encK .u64))]) [itP Tryz.prog gf lb own (zs.map (encK .u64))] w) :
    Fn Tryz.prog 112 [.slice none 0 0, .func (.func gf) #[] lb.toArray] [itP Tryz.prog gf lb own (zs.map (encK .u64))] w (fun y : (Option Addr × Nat) × List Int => y.2.Perm zs) (fun y => .slice y.1.1 y.2.length y.1.2) (fun y => [ownR (.slice y.1.1 y.2.length y.1.2) 34 1 y.2.length (ints .u64 y.2)]) := by
  refine enterM Tryz.func112 rfl Tryz.ntmps112 rfl hw ?_
  refine WC.seq ?_
  refine WC.region ?_
  refine WL.to (To.box (cs := [.slice none 0 0]) rfl rfl) rfl ?_
  intro b2
  refine WL.y (Yl.assign rfl) rfl ?_
  refine WL.nil ?_
  refine WC.seq ?_
  refine WC.seq ?_
  refine WC.region ?_
  refine WL.y (Yl.move rfl) rfl ?_
  refine WL.nil ?_
  refine WC.block ?_
  refine WC.view (fun w h => h.addNil 34 1) ?_
  refine WC.rangeP (α := (Option Addr × Nat) × List Int) (lb := lb) (xs := zs.map (encK .u64)) (fun _ s => [blkR b2 48 [.slice s.1.1 s.2.length s.1.2], ownR (.slice s.1.1 s.2.length s.1.2) 34 1 s.2.length (ints .u64 s.2)]) (fun i s => i = s.2.map (encK .u64)) ((none, 0), []) rfl eg encK_size rfl (by repeat constructor) rfl (by repeat' constructor) ?_ ?_
  · rintro l2 i x ⟨⟨ao, ca⟩, ys⟩ hx rfl W
    dsimp only at hx ⊢
    have hxm := mem_ofP hx
    obtain ⟨z, _, rfl⟩ := List.mem_map.1 hxm
    have hyl : ys.length < zs.length := by
      obtain ⟨rest, h⟩ := hx
      have := h.length_eq
      simp at this
      omega
    show WC _ _ _ ((7, .int .u64 z) :: _) _ _
    refine WC.region ?_
    refine WL.y (Yl.assign rfl) rfl ?_
    refine WL.nil ?_
    repeat (with_reducible (first | refine peelT ?_ | refine peelB ?_ | refine peelTX ?_ | refine peelBX ?_ | refine peelBN ?_ | refine peelBO rfl ?_))
    refine fun W2 => ?_
    refine WC.block ?_
    refine WC.region ?_
    refine WL.y (Yl.load on48 rfl (by repeat constructor) (by rfl)) rfl ?_
    refine WL.y (Yl.move rfl) rfl ?_
    refine WL.to (To.buildSlice (vs := [.int .u64 z]) un48 zs34 rfl rfl (by simp [Value.cells]) (by decide) (by decide)) rfl ?_
    intro b10
    refine WL.to (To.append sl48 rfl rfl (by repeat constructor) (Reads.of (RdOf.blk (size := 1) (cs := flat [.int .u64 z]) (cs' := ints .u64 [z]) (Nat.le_refl _) (by unfold maxLen; omega) (by simp [flat, Value.cells]) (by simp [flat, Value.cells, ints])) (by repeat constructor)) (ints_one _ _) (show ys.length + 1 = (ys ++ [z]).length by simp) (show ints .u64 ys ++ ints .u64 [z] = ints .u64 (ys ++ [z]) by simp [ints]) (by simp; unfold maxLen; omega) (by simp; omega)) rfl ?_
    rintro ⟨⟨ao11, c11⟩, hc11⟩
    dsimp only at hc11 ⊢
    refine WL.sto (Sto.one sz48 rfl rfl (by repeat constructor) rfl (by rfl) (by rfl)) (fun _ h => nomatch h) ?_
    refine WL.nil ?_
    repeat (with_reducible (first | refine peelT ?_ | refine peelB ?_ | refine peelTX ?_ | refine peelBX ?_ | refine peelBN ?_ | refine peelBO rfl ?_))
    exact ⟨[blkR b2 48 [.slice ao11 (ys ++ [z]).length c11], ownR (.slice ao11 (ys ++ [z]).length c11) 34 1 (ys ++ [z]).length (ints .u64 (ys ++ [z]))], _, (by repeat' constructor), ((ao11, c11), ys ++ [z]), by simp [encK], rfl⟩
  · rintro is ⟨⟨ao, ca⟩, ys⟩ D hperm rfl
    have hp := encK_perm hperm
    dsimp only [List.cons_append, List.nil_append]
    refine WC.seq ?_
    refine WC.region ?_
    refine WL.y (Yl.load on48 rfl (by repeat constructor) (by rfl)) rfl ?_
    refine WL.y (Yl.assign rfl) rfl ?_
    refine WL.nil ?_
    refine WC.ret ?_
    repeat (with_reducible (first | refine peelT ?_ | refine peelB ?_ | refine peelTX ?_ | refine peelBX ?_ | refine peelBN ?_ | refine peelBO rfl ?_))
    refine retM.of (.cons (by repeat constructor) .nil) ?_
    exact ret1 (.inr rfl) Tryz.results112 rfl fun w' h => ⟨((ao, ca), ys), hp, rfl, h.sub (by repeat' constructor)⟩
theorem colV_any (gf : Nat) (lb : List Value) (own : Nat → Prop) (zs : List Int) (hz : zs.length ≤ 1000000) (eg : ∀ args w, (callFunc gf args).run Tryz.prog w = .ok (.enter gf args) w) (w : World) (hw : OK w (fpL [itP Tryz.prog gf lb own (zs.map (encK .u64))]) [itP Tryz.prog gf lb own (zs.map (encK .u64))] w) :
    Fn Tryz.prog 88 [.func (.func gf) #[] lb.toArray] [itP Tryz.prog gf lb own (zs.map (encK .u64))] w (fun y : (Option Addr × Nat) × List Int => y.2.Perm zs) (fun y => .slice y.1.1 y.2.length y.1.2) (fun y => [ownR (.slice y.1.1 y.2.length y.1.2) 34 1 y.2.length (ints .u64 y.2)]) := by
  refine enterF Tryz.func88 rfl Tryz.ntmps88 rfl hw ?_
  refine WC.seq ?_
  refine WC.region ?_
  refine WL.y (Yl.assign rfl) rfl ?_
  refine WL.nil ?_
  refine WC.seq ?_
  refine WC.region ?_
  refine WL.y (Yl.move rfl) rfl ?_
  refine WL.callC (xs := [_, .tmp 3]) (cap := []) rfl rfl en112 (by repeat' constructor) (fun w hw => appSeqV_any gf lb own zs hz eg w hw.left.here) rfl ?_
  rintro ⟨⟨a4, c4⟩, ys⟩ hp
  dsimp only [List.cons_append, List.nil_append]
  refine WL.y (Yl.assign rfl) rfl ?_
  refine WL.nil ?_
  refine WC.ret ?_
  repeat (with_reducible (first | refine peelT ?_ | refine peelB ?_ | refine peelTX ?_ | refine peelBX ?_ | refine peelBN ?_ | refine peelBO rfl ?_))
  exact ret1 (.inr rfl) Tryz.results88 rfl fun w' h => ⟨((a4, c4), ys), hp, rfl, h.sub (by repeat' constructor)⟩
theorem sortedV_any (gf : Nat) (lb : List Value) (own : Nat → Prop) (zs : List Int) (hz : zs.length ≤ 1000000) (eg : ∀ args w, (callFunc gf args).run Tryz.prog w = .ok (.enter gf args) w) (w : World) (hw : OK w (fpL [itP Tryz.prog gf lb own (zs.map (encK .u64))]) [itP Tryz.prog gf lb own (zs.map (encK .u64))] w) :
    Fn Tryz.prog 52 [.func (.func gf) #[] lb.toArray] [itP Tryz.prog gf lb own (zs.map (encK .u64))] w (fun _ : Option Addr × Nat => True) (fun y => .slice y.1 (asc zs).length y.2) (fun y => [ownR (.slice y.1 (asc zs).length y.2) 34 1 (asc zs).length (ints .u64 (asc zs))]) := by
  refine enterF Tryz.func52 rfl Tryz.ntmps52 rfl hw ?_
  refine WC.seq ?_
  refine WC.region ?_
  refine WL.y (Yl.assign rfl) rfl ?_
  refine WL.nil ?_
  refine WC.seq ?_
  refine WC.region ?_
  refine WL.y (Yl.move rfl) rfl ?_
  refine WL.callC (xs := [.tmp 4]) (cap := []) rfl rfl en88 (by repeat' constructor) (fun w hw => colV_any gf lb own zs hz eg w hw.left.here) rfl ?_
  rintro ⟨⟨a5, c5⟩, ys⟩ hp
  dsimp only at hp
  dsimp only [List.cons_append, List.nil_append]
  have hyl := hp.length_eq
  refine WL.y (Yl.assign rfl) rfl ?_
  refine WL.nil ?_
  refine WC.seq ?_
  refine WC.region ?_
  refine WL.y (Yl.move rfl) rfl ?_
  refine WL.callC (xs := [.tmp 6]) (cap := []) rfl rfl en89 (by repeat' constructor) (fun w hw => sortV_any a5 c5 ys (by omega) w hw.left.here) rfl ?_
  rintro ⟨⟩ -
  rw [asc_eq hp, show ys.length = (asc zs).length by rw [asc_len, hyl]]
  dsimp only [List.cons_append, List.nil_append]
  refine WL.nil ?_
  refine WC.seq ?_
  refine WC.region ?_
  refine WL.y (Yl.move rfl) rfl ?_
  refine WL.y (Yl.assign rfl) rfl ?_
  refine WL.nil ?_
  refine WC.ret ?_
  repeat (with_reducible (first | refine peelT ?_ | refine peelB ?_ | refine peelTX ?_ | refine peelBX ?_ | refine peelBN ?_ | refine peelBO rfl ?_))
  exact ret1 (.inr rfl) Tryz.results52 rfl fun w' h => ⟨(a5, c5), trivial, rfl, h.sub (by repeat' constructor)⟩
theorem keysV_any (bm : Nat) (m : List (Int × Sm)) (w : World) (hw : OK w (fpL [roR (mapR (Value.int .u64) smV bm m)]) [roR (mapR (Value.int .u64) smV bm m)] w) :
    Fn Tryz.prog 53 [.map (some bm)] [roR (mapR (Value.int .u64) smV bm m)] w (fun _ : Nat × (Nat → Prop) => True) (fun y => .func (.func 90) #[] #[.pointer (some ⟨y.1, 0, none⟩)]) (fun y => [itP Tryz.prog 90 [.pointer (some ⟨y.1, 0, none⟩)] y.2 ((m.map (·.1)).map (encK .u64))]) := by
  refine enterF Tryz.func53 rfl Tryz.ntmps53 rfl hw ?_
  refine WC.seq ?_
  refine WC.region ?_
  refine WL.to (To.box (cs := [.map (some bm)]) rfl rfl) rfl ?_
  intro b1
  refine WL.y (Yl.assign rfl) rfl ?_
  refine WL.nil ?_
  refine WC.seq ?_
  refine WC.region ?_
  refine WL.y (Yl.makeFunc (xs := []) (ys := [.tmp 1]) rfl rfl) rfl ?_
  refine WL.y (Yl.assign rfl) rfl ?_
  refine WL.nil ?_
  refine WC.ret ?_
  repeat (with_reducible (first | refine peelT ?_ | refine peelB ?_ | refine peelTX ?_ | refine peelBX ?_ | refine peelBN ?_ | refine peelBO rfl ?_))
  refine ret1 (.inr rfl) Tryz.results53 rfl fun w' hh => ⟨(b1, (fpL [roR (blkR b1 108 [.map (some bm)]), roR (mapR (Value.int .u64) smV bm m)]).rd), trivial, rfl, ?_⟩
  have hA : OK w _ ([blkR b1 108 [.map (some bm)], roR (mapR (Value.int .u64) smV bm m)] ++ []) w' := hh.sub (by repeat' constructor)
  have hro : OK w _ ([roR (blkR b1 108 [.map (some bm)]), roR (mapR (Value.int .u64) smV bm m)] ++ []) w' := hA.roOne .head
  have hi := keys1V_iter b1 bm m w' hro.here
  rw [ksY_enc] at hi
  exact hro.toIterP hi (fun k hk => hk)
end Go.Proofs.YtbgimajbehodnaaGreatDoor
