/- The frames that a text begins with: the program's iterator. No condition. -/
import Derived.Test.YthlfolpcmcejkaaFr3
set_option linter.unusedSimpArgs false
set_option linter.unusedVariables false
set_option maxRecDepth 100000
namespace Go.Proofs.Ythlfolpcmcejkaa
open Go Go.Eng Go.RowKit Silo TryT

/-- A record whose lists are one's own. -/
def RecQ (c : Nat → Nat) (w : World) (cs : List Value) (x : Rec) : Prop := ∃ vl vs, cs = [I x.kind, I x.id, St x.name, St x.digest, vl, vs] ∧ OwnC c w 5 TI 1 vl x.list.length (flatL x.list) ∧ OwnC c w 5 TSl 2 vs x.slots.length (flatS x.slots) ∧
  ((Go.Eng.Int64 x.kind ∧ Go.Eng.Int64 x.id ∧ x.name.length ≤ 140737488355328 ∧ x.digest.length ≤ 140737488355328) ∧ (∀ y ∈ x.list, Go.Eng.Int64 y) ∧ (∀ y ∈ x.slots, Go.Eng.Int64 y.1 ∧ Go.Eng.Int64 y.2) ∧ x.list.length ≤ 140737488355328 ∧ x.slots.length ≤ 140737488355328)
theorem RecQ.mv {c c' : Nat → Nat} {w w' : World} {I : List Nat} {cs : List Value} {x : Rec} (h : RecQ c w cs x) (m : Mv c w c' w' I) (hi : hasC I 5 = false := by rfl) : RecQ c' w' cs x := by
  obtain ⟨vl, vs, e, a, b, r⟩ := h
  exact ⟨vl, vs, e, a.mv m hi, b.mv m hi, r⟩
theorem EachO.snocQ {c : Nat → Nat} {w : World} {css : List (List Value)} {l : List Rec} {x : Rec} {cs : List Value} (h : EachO c w css l) (a : RecQ c w cs x) : EachO c w (css ++ [cs]) (l ++ [x]) := by
  obtain ⟨vl, vs, rfl, a1, a2, r⟩ := a
  exact h.snoc a1 a2 r
/-- What the iterator hands out: a record's cells, and what they stand for. -/
abbrev FrX := List Value × Rec × Nat × Nat
def endF (l : List FrX) : Nat := (l.map fun x => x.2.2.2).sum
theorem endF_snoc (l : List FrX) (cs : List Value) (q : Rec) (k z : Nat) : endF (l ++ [(cs, q, k, z)]) = endF l + z := by simp [endF]
def QF (s : List UInt8) (pre : List FrX) (x : FrX) (d : Nat → Nat) (A : World) : Prop := takeF (s.drop (endF pre)) = some (x.2.1, x.2.2.1, x.2.2.2) ∧ RecQ d A x.1 x.2.1 ∧ (mayB x.2.1 = true ∧ x.2.2.1 ≤ 1073741824 ∧ endF pre + x.2.2.2 ≤ s.length)
def FinF (s : List UInt8) (L : List FrX) : Prop := takeF (s.drop (endF L)) = none

set_option maxHeartbeats 1000000 in
theorem walk_iter {w0 : World} {c0 : Nat → Nat} {b1 : Nat} {s : List UInt8} (hs : s.length ≤ 1073741824) (hb1 : BlkC c0 w0 70 b1 [St s] 9) :
    IterQ Try.prog 69 [.pointer (some ⟨b1, 0, none⟩)] (fun x : FrX => [.agg x.1.toArray, .agg #[I x.2.2.1, I x.2.2.2]]) [70, 53, 54] [] (QF s) (FinF s) c0 w0 := by
  intro l J Jx c1 W K hM hK hJi hJxi hy hJ0
  have hN : ∀ i ∈ [70, 53, 54], hasC K i = false := fun i hi => apart_of hK (by simpa using hi)
  replace hb1 := hb1.mv hM (hN 70 (by simp))
  have hJ : JC (J []) [70, 53, 54] c1 W := ⟨hJ0, fun _ _ _ _ h m => hJi _ _ _ _ _ h m⟩
  clear hM hN hK
  show Calls _ _ [_, _].toArray _ _
  refine enter (n := 25) (res := #[]) Try.func69 rfl rfl rfl rfl ?_
  refine cblock ?_
  refine WC.loop (σ := List FrX) (fun st => [(0, .func (.yield l) #[] #[]), (1, .pointer (some ⟨b1, 0, none⟩))]) (fun st w' => ∃ c', BlkC c' w' 70 b1 [St (s.drop (endF st))] 9 ∧ JC (J st) [70, 53, 54] c' w' ∧ endF st ≤ s.length) (fun st => s.length - endF st) [] subs ⟨_, hb1, hJ, by simp [endF]⟩ ?_
  clear hb1 hJ
  rintro pre wl ⟨cl, hb1, hJ, hp⟩
  obtain ⟨u, hu⟩ : ∃ u, u = s.drop (endF pre) := ⟨_, rfl⟩
  have hul : u.length = s.length - endF pre := by rw [hu, List.length_drop]
  rw [← hu] at hb1
  refine cblock <| cseq <| cg <| vq (Val.loadB scl9 rfl hb1.blk rfl) ?_
  refine ve (Eff.pureC cl 5 (Eff.call pf70 rfl (ftaken_ok (s := u) (by omega)))) ?_
  rintro v8 w1 ⟨c1, hM1, hx1, ⟨cs, q, f1, f2, rfl, ⟨vl, vs, rfl, ol, os, okk⟩, hq⟩⟩
  replace hb1 := hb1.mv hM1; replace hJ := hJ.mv hM1
  replace ol := ol.toC hx1
  replace os := os.toC hx1
  have p2 := ol.oneC; have p3 := os.oneC
  refine zm rfl <| vq (Val.extract rfl rfl) <| vq (Val.extract rfl rfl) <| vq (Val.extract rfl rfl) ?_
  refine ve (Eff.allocC c1 53 zero31) ?_
  rintro _ w2 ⟨b3, c2, rfl, hM2, hb3⟩
  replace hb1 := hb1.mv hM2; replace hJ := hJ.mv hM2; replace ol := ol.mv hM2; replace os := os.mv hM2
  refine ve (Eff.allocC c2 54 zero86) ?_
  rintro _ w3 ⟨b4, c3, rfl, hM3, hb4⟩
  replace hb1 := hb1.mv hM3; replace hJ := hJ.mv hM3; replace ol := ol.mv hM3; replace os := os.mv hM3; replace hb3 := hb3.mv hM3
  refine WR.eff_ (Eff.storeNC agg31 rfl rfl hb3 rfl rfl ones) ?_
  rintro _ w4 ⟨hS, hM4⟩
  replace hb1 := hb1.mv hM4; replace hJ := hJ.mv hM4; replace ol := ol.mv hM4; replace os := os.mv hM4; replace hb4 := hb4.mv hM4
  replace hb3 := hS
  refine WR.eff_ (Eff.storeNC agg86 rfl rfl hb4 rfl rfl ones) ?_
  rintro _ w5 ⟨hS, hM5⟩
  replace hb1 := hb1.mv hM5; replace hJ := hJ.mv hM5; replace ol := ol.mv hM5; replace os := os.mv hM5; replace hb3 := hb3.mv hM5
  replace hb4 := hS
  refine za rfl <| cnil <| cseq <| cseq ?_
  rcases hT : takeF u with _ | ⟨r, k, z⟩
  · rw [Option.isSome_none]
    refine cg <| zm rfl <| vq (Val.not rfl) <| zm rfl ?_
    apply WR.sc false 5 true (fun w' => w5 = w')
    case hl | hg | hu | hv | hs | hoff | hd => rfl
    case hF => exact fun _ => rfl
    case hT => exact fun h => absurd h (by decide)
    rintro _ rfl
    refine cnil ?_
    refine WC.cond rfl (fun _ => ?_) (fun h => absurd h (by decide))
    refine WC.ret0 rfl ?_
    exact ⟨_, .inl ⟨pre, by rw [FinF, ← hu]; exact hT, hJ.now⟩⟩
  rw [Option.isSome_some]
  obtain ⟨rfl, rfl, rfl⟩ := hq r k z hT
  obtain ⟨z1, z2, z3, z4⟩ := takeF_size hT
  refine cg <| zm rfl <| vq (Val.not rfl) <| zm rfl ?_
  refine WR.onEq rfl rfl rfl ?_
  refine zm rfl ?_
  refine WR.onEq rfl rfl rfl ?_
  refine vq (Val.loadBN agg31 rfl hb3.blk rfl) ?_
  refine WR.onEq rfl rfl rfl ?_
  refine vq (Val.loadBN agg86 rfl hb4.blk rfl) ?_
  refine WR.onEq rfl rfl rfl ?_
  obtain ⟨K2, hK2, hyA⟩ := hy pre ([I q.kind, I q.id, St q.name, St q.digest, vl, vs], q, k, z) _ _ hJ.now ⟨by rw [← hu]; exact hT, ⟨vl, vs, rfl, ol, os, okk⟩, z3, z4, by dsimp only; omega⟩
  refine ve (Eff.yieldB rfl rfl hyA) ?_
  rintro _ wY ⟨b, cY, rfl, hMY, hyT, hyF⟩
  replace hb1 := hb1.mv hMY (apart_of hK2 (by simp)); replace hb3 := hb3.mv hMY (apart_of hK2 (by simp)); replace hb4 := hb4.mv hMY (apart_of hK2 (by simp))
  clear hJ hyA
  refine WR.onEq rfl rfl rfl ?_
  refine vq (Val.not rfl) ?_
  refine WR.pickOn (by rfl) rfl rfl rfl ?_
  refine cnil ?_
  refine WC.cond rfl (fun hc1 => ?_) (fun hc1 => ?_)
  ·try simp only [tstS] at hc1
   skip
   refine WC.ret0 rfl ?_
   exact ⟨_, .inr ⟨_, hyF hc1⟩⟩
  ·try simp only [tstS] at hc1
   have hJ : JC (J (pre ++ [([I q.kind, I q.id, St q.name, St q.digest, vl, vs], q, k, z)])) [70, 53, 54] cY wY := ⟨hyT hc1, fun _ _ _ _ h m => hJi _ _ _ _ _ h m⟩
   clear hyT hyF hMY
   refine cskip <| cg <| vq (Val.loadB scl9 rfl hb1.blk rfl) <| vq (Val.fieldAddr fld86_1 rfl) <| vq (Val.loadB scl3 rfl hb4.blk rfl) <| vq (Val.ssliceFrom Try.underlying9 rfl rfl side side) ?_
   refine WR.eff_ (Eff.storeC scl9 rfl rfl ra ra hb1 rfl) ?_
   rintro _ w6 ⟨hS, hM6⟩
   replace hb3 := hb3.mv hM6; replace hb4 := hb4.mv hM6; replace hJ := hJ.mv hM6
   replace hb1 := hS
   refine cnil ?_
   exact ⟨pre ++ [_], subs, ⟨_, by rw [endF_snoc, ← List.drop_drop, ← hu]; exact hb1, hJ, by rw [endF_snoc]; omega⟩, by rw [endF_snoc]; omega⟩
end Go.Proofs.Ythlfolpcmcejkaa
