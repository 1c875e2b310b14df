/- A map's keys, sorted; texts repeated. No condition. -/
import Derived.Test.YtjddnaefmikccaaAr0
set_option linter.unusedSimpArgs false
set_option linter.unusedVariables false
set_option maxRecDepth 100000
namespace Go.Eng
open Go Go.RowKit
/-- The list of what repeats. -/
theorem OldC.accA {w0 w : World} {c : Nat → Nat} (_ : OldC w0 c w) (K : List Nat) : Acc c w K c w := Acc.refl _ _ _
theorem take_rep {α : Type} (a : α) {n k : Nat} (h : k ≤ n) : (List.replicate n a).take k = List.replicate k a := by rw [List.take_replicate, Nat.min_eq_left h]
end Go.Eng
namespace Go.Proofs.Ytjddnaefmikccaa
open Go Go.Eng Go.RowKit Go.Sort TryT

/-- What the values of a map's keys are. -/
def KeyF (w : World) (mb : Nat) (u : Value) : Prop := ∃ b1, u = .func (.func 66) #[] #[.pointer (some ⟨b1, 0, none⟩)] ∧ Blk w b1 [.map (some mb)] TMap
theorem mapsKeys_ok {w : World} {mb : Nat} : Calls Try.prog 56 #[.map (some mb)] w (Ret fun u w' => Below w.heap.size w w' ∧ KeyF w' mb u) := by
  obtain ⟨c, hO, hc⟩ := OldC.start w
  clear hc
  refine enter (n := 4) (res := #[.tmp 2]) Try.func56 rfl rfl rfl rfl ?_
  refine cseq <| cg ?_
  refine ve (Eff.box1C c 101 rfl ra) ?_
  rintro _ w1 ⟨b1, c1, rfl, hM1, hb1⟩
  replace hO := hO.mv hM1
  refine za rfl <| cnil <| cseq <| cg <| vq (Val.makeFunc rfl) <| za rfl <| cnil ?_
  refine WC.ret1 rfl rfl ?_
  exact ⟨hO.below, _, rfl, hb1.blk⟩

set_option maxHeartbeats 1000000 in
theorem aseq_ok {w : World} {mb : Nat} {u : Value} {C : List Txt} (hu : KeyF w mb u) (hm0 : MapW w mb C) (hC : C.length ≤ 1048576) : Calls Try.prog 72 #[.slice none 0 0, u] w (Ret fun v w' => Below w.heap.size w w' ∧ ∃ L, Fk C L ∧ Own w' w.heap.size 3 1 v L.length (L.map fun (k : Nat) => I k)) := by
  obtain ⟨b1, rfl, hB0⟩ := hu
  obtain ⟨c, hO, hc⟩ := OldC.start w
  have hB : BlkC c w 0 b1 [.map (some mb)] TMap := ⟨hB0, hc _⟩
  have hm : MapC c w 0 mb C := ⟨hm0, hc _⟩
  clear hc hB0 hm0
  refine enter (n := 13) (res := #[.tmp 4]) Try.func72 rfl rfl rfl rfl ?_
  refine cseq <| cg ?_
  refine ve (Eff.box1C c 102 rfl ra) ?_
  rintro _ w1 ⟨b2, c1, rfl, hM1, hb2⟩
  replace hO := hO.mv hM1; replace hB := hB.mv hM1; replace hm := hm.mv hM1
  refine za rfl <| cnil <| cseq <| cseq <| cg <| zm rfl <| cnil <| cblock ?_
  refine WC.rangeFuncQ (α := Nat) (encs := fun k => [I k]) (κ := [75]) (F := [0]) (Q := Qk C) (Fin := Fk C)
    (fun pre d A => ∃ vl, OldC w d A ∧ BlkC d A 102 b2 [vl] 32 ∧ OwnC d A 7 3 1 vl pre.length (pre.map fun (k : Nat) => I k) ∧ pre.Nodup ∧ ∀ k ∈ pre, tx C k ≠ []) [] (fun _ _ _ => False) [102, 7] rfl rfl pf66 (keys_iter (by omega) hB hm) rfl (fun _ => rfl) (by simp) rfl
    (fun _ d A d' B ⟨f, h1, h2, h3, h4⟩ m => ⟨f, h1.mv m, h2.mv m, h3.mv m, h4⟩) (fun p hp => by simp at hp) (fun s d A d' B h _ => h.elim)
    ⟨_, hO, hb2, OwnC.nil _ _ _ _ _, List.nodup_nil, by simp⟩ ?_ ?_ ?_ ?_
  ·clear hO hb2 hB hm
   rintro l pre x d A ⟨vl, hO, hb2, ho, hnd, hpx⟩ ⟨hx1, hx2⟩
   have hA := Acc.refl d A [102, 7]
   have hlen := Nat.le_trans (nodup_len hnd hpx) (keysT_len C)
   have ox := ho.oneC; have cx := ho.cellsV
   refine cg <| za rfl <| cnil ?_
   refine ⟨_, hA, ?_⟩
   intro A2 hM2
   replace hO := hO.mv hM2; replace hb2 := hb2.mv hM2; replace ho := ho.mv hM2
   have hA := hO.accA [102, 7]
   refine cblock <| cg <| vq (Val.loadB scl32 rfl hb2.blk rfl) <| zm rfl ?_
   refine ve (Eff.build1C d 110 sl32 rfl rfl rfl rfl rfl) ?_
   rintro _ w2 ⟨b10, c2, rfl, hM2, hb10⟩
   replace hO := hO.mv hM2; replace hb2 := hb2.mv hM2; replace ho := ho.mv hM2; replace hA := hA.mv hM2
   refine ve (Eff.appendC sl32 rfl rfl ho (Src.cellsAt Try.underlying32 hb10.blk.cellsAt rfl ones) mxl oms) ?_
   rintro v11 w3 ⟨c3, hM3, hOq⟩
   clear hb10
   replace hO := hO.mv hM3; replace hb2 := hb2.mv hM3; replace hA := hA.mv hM3
   replace ho := hOq
   have ox2 := ho.oneC; have cx2 := ho.cellsV
   refine WR.eff_ (Eff.storeC scl32 rfl rfl ra ra hb2 rfl) ?_
   rintro _ w4 ⟨hS, hM4⟩
   replace hO := hO.mv hM4; replace ho := ho.mv hM4; replace hA := hA.mv hM4
   replace hb2 := hS
   refine cnil ?_
   refine ⟨_, hA, _, hO, hb2, ?_, ?_, ?_⟩
   · rw [List.length_append, List.map_append]; exact ho
   · rw [List.nodup_append]; exact ⟨hnd, by simp, fun a ha b hb e => by simp at hb; subst hb; subst e; exact hx1 ha⟩
   · intro k hk; rcases List.mem_append.1 hk with h | h
     · exact hpx k h
     · simp at h; subst h; exact hx2
  ·clear hO hb2 hB hm
   rintro L D d B hF ⟨vl, hO, hb2, ho, hnd, hpx⟩ hD
   refine cseq <| cg <| vq (Val.loadB scl32 rfl hb2.blk rfl) <| za rfl <| cnil ?_
   obtain ⟨hTk, hMTk⟩ := hD.take
   replace hO := hO.mv hMTk; replace hb2 := hb2.mv hMTk; replace ho := ho.mv hMTk
   refine WC.retMR1 rfl rfl hTk (RVal.tmp rfl) ?_
   exact ⟨hO.below, L, hF, ho.fromOldA hO (by decide)⟩
  ·intro p hp; simp at hp
  ·exact fun _ _ _ _ h => h.elim

theorem collect_ok {w : World} {mb : Nat} {u : Value} {C : List Txt} (hu : KeyF w mb u) (hm0 : MapW w mb C) (hC : C.length ≤ 1048576) : Calls Try.prog 64 #[u] w (Ret fun v w' => Below w.heap.size w w' ∧ ∃ L, Fk C L ∧ Own w' w.heap.size 3 1 v L.length (L.map fun (k : Nat) => I k)) := by
  obtain ⟨c, hO, hc⟩ := OldC.start w
  clear hc
  have hu' : ∃ b1, u = .func (.func 66) #[] #[.pointer (some ⟨b1, 0, none⟩)] := let ⟨b1, h, _⟩ := hu; ⟨b1, h⟩
  refine enter (n := 5) (res := #[.tmp 2]) Try.func64 rfl rfl rfl rfl ?_
  refine cseq <| cg <| za rfl <| cnil <| cseq <| cg <| zm rfl ?_
  refine ve (Eff.pureC c 7 (Eff.call pf72 rfl (aseq_ok (u := u) hu hm0 hC))) ?_
  rintro v4 w1 ⟨c1, hM1, hx1, ⟨L, hF, hL⟩⟩
  replace hO := hO.mv hM1
  replace hL := hL.toC hx1
  refine za rfl <| cnil ?_
  refine WC.ret1 rfl rfl ?_
  exact ⟨hO.below, L, hF, hL.fromOldA hO (by decide)⟩

theorem sortedKeys_ok {w : World} {mb : Nat} {u : Value} {C : List Txt} (hu : KeyF w mb u) (hm0 : MapW w mb C) (hC : C.length ≤ 1048576) : Calls Try.prog 55 #[u] w (Ret fun v w' => Below w.heap.size w w' ∧ Own w' w.heap.size 3 1 v (keysT C).length ((keysT C).map fun (k : Nat) => I k)) := by
  obtain ⟨c, hO, hc⟩ := OldC.start w
  clear hc
  refine enter (n := 9) (res := #[.tmp 2]) Try.func55 rfl rfl rfl rfl ?_
  refine cseq <| cg <| za rfl <| cnil <| cseq <| cg <| zm rfl ?_
  refine ve (Eff.pureC c 7 (Eff.call pf64 rfl (collect_ok (u := u) hu hm0 hC))) ?_
  rintro v5 w1 ⟨c1, hM1, hx1, ⟨L, hF, hL⟩⟩
  replace hO := hO.mv hM1
  replace hL := hL.toC hx1
  have e1 : (L.map fun (k : Nat) => I k) = (L.map fun (k : Nat) => (k : Int)).map (Value.int .i64) := by rw [List.map_map]; rfl
  obtain ⟨zs, hzs⟩ : ∃ zs : List Int, zs = L.map fun (k : Nat) => (k : Int) := ⟨_, rfl⟩
  rw [← hzs] at e1
  have hzl : zs.length = L.length := by rw [hzs, List.length_map]
  rw [e1, ← hzl] at hL
  have hl1 := nodup_len hF.1 (fun k hk => (hF.2 k).1 hk); have hl2 := keysT_len C
  refine za rfl <| cnil <| cseq <| cg <| zm rfl ?_
  refine ve (Eff.grownOA hL (Eff.call pf65 rfl (sortInts_ok hL.own (by omega)))) ?_
  rintro v7 w2 ⟨c2, hM2, hcol, hS⟩
  replace hO := hO.mv hM2
  refine cnil <| cseq <| cg <| zm rfl <| za rfl <| cnil ?_
  refine WC.ret1 rfl rfl ?_
  have hk : (keysT C).length = zs.length := by rw [← List.length_mergeSort (l := zs) (le := fun x y => decide (x ≤ y)), hzs, keys_sorted hF.1 hF.2, List.length_map]
  refine ⟨hO.below, ?_⟩
  have h := OwnC.fromOldA hO (⟨hS, hcol⟩ : OwnC _ _ 7 3 1 _ _ _) (by decide)
  rw [hzs, keys_sorted hF.1 hF.2, List.map_map, ← hzs] at h
  rw [hk]; exact h
end Go.Proofs.Ytjddnaefmikccaa
