/- The page's disks in memory; what asks. No condition. -/
import Derived.Test.YtjddnaefmikccaaAr9
import Derived.Test.YtjddnaefmikccaaRec1
import Derived.Test.YtjddnaefmikccaaRec2
set_option linter.unusedSimpArgs false
set_option linter.unusedVariables false
set_option maxRecDepth 100000
namespace Silo
open Go.Eng
structure WfB (B : Arr) : Prop where
  wf : WfA B
  off : B.off = decide (B.left = 0)
def askedP (B : Arr) (d : Int) (form : Bool) : Int := if isA B d then if form then mayA B d.toNat else 1 else 3
end Silo
namespace Go.Eng
open Go Go.RowKit Silo
theorem OwnC.elem1 {c : Nat → Nat} {w : World} {v : Value} {e : TypeId} {i : Nat} {xs : List Value} (h : OwnC c w i e 1 v xs.length xs) {k : Nat} {u : Value} (hk : xs[k]? = some u) : CelC c w [i] (elemA v 1 (k : Int).toNat) [u] := by
  have h2 : OwnC c w i e 1 v xs.length (xs.flatMap fun x => [x]) := by
    have e1 : ∀ l : List Value, (l.flatMap fun x => [x]) = l := fun l => by induction l with
      | nil => rfl
      | cons a r ih => rw [List.flatMap_cons, ih]; rfl
    rw [e1]; exact h
  obtain ⟨h3, rfl⟩ := List.getElem?_eq_some_iff.1 hk
  exact h2.elem (fun _ => rfl) (by decide) h3
structure PgX (c : Nat → Nat) (w : World) (p M : Nat) (B : Arr) (vL vD vC : Value) (ds cs : List Value) : Prop where
  hbp : BlkC c w 80 p [I M, I B.sectors, vL, vD, vC, I B.left, I B.changes] 52
  live : OwnC c w 81 4 1 vL (B.d.map fun x => Value.bool x.live).length (B.d.map fun x => Value.bool x.live)
  disk : OwnC c w 82 59 1 vD ds.length ds
  cache : OwnC c w 83 59 1 vC cs.length cs
  rd : RowsC c w 84 9 ds (B.d.map (·.l))
  rc : RowsC c w 85 9 cs (B.d.map (·.cache))
def PgC (c : Nat → Nat) (w : World) (p : Nat) (B : Arr) : Prop := ∃ vL vD vC ds cs, PgX c w p B.d.length B vL vD vC ds cs
abbrev colP : List Nat := [80, 81, 82, 83, 84, 85]
section
variable {c c' : Nat → Nat} {w w' : World} {p M : Nat} {B : Arr} {vL vD vC : Value} {ds cs : List Value} {K : List Nat}
theorem PgX.mv (h : PgX c w p M B vL vD vC ds cs) (m : Mv c w c' w' K) (hi : apartC colP K = true := by rfl) : PgX c' w' p M B vL vD vC ds cs := by
  have hk : ∀ i ∈ colP, hasC K i = false := fun i h => apart_of hi h
  exact ⟨h.hbp.mv m (hk 80 (by simp)), h.live.mv m (hk 81 (by simp)), h.disk.mv m (hk 82 (by simp)), h.cache.mv m (hk 83 (by simp)), h.rd.mv m (hk 84 (by simp)), h.rc.mv m (hk 85 (by simp))⟩
theorem PgC.mv (h : PgC c w p B) (m : Mv c w c' w' K) (hi : apartC colP K = true := by rfl) : PgC c' w' p B := by
  obtain ⟨a, b, d, e, f, h⟩ := h
  exact ⟨a, b, d, e, f, h.mv m hi⟩
theorem PgX.inn (h : PgX c w p M B vL vD vC ds cs) : PgX (mask c colP) w p M B vL vD vC ds cs := ⟨h.hbp.inn rfl, h.live.inn rfl, h.disk.inn rfl, h.cache.inn rfl, h.rd.inn rfl, h.rc.inn rfl⟩
theorem PgX.out {c0 : Nat → Nat} {w0 : World} (hb : PgX c w p M B vL vD vC ds cs) (h : OldJ c0 w0 colP c w) : PgX (back c0 w0 c) w p M B vL vD vC ds cs := ⟨hb.hbp.out h rfl, hb.live.out h rfl, hb.disk.out h rfl, hb.cache.out h rfl, hb.rd.out h rfl, hb.rc.out h rfl⟩
theorem PgX.shut (h : PgX c w p M B vL vD vC ds cs) (hM : M = B.d.length := by first | rfl | exact (List.length_set ..).symm) : PgC c w p B := by
  subst hM
  exact ⟨_, _, _, _, _, h⟩
theorem PgC.inn (h : PgC c w p B) : PgC (mask c colP) w p B := by
  obtain ⟨a, b, d, e, f, h⟩ := h
  exact ⟨a, b, d, e, f, h.inn⟩
theorem PgC.out {c0 : Nat → Nat} {w0 : World} (hb : PgC c w p B) (h : OldJ c0 w0 colP c w) : PgC (back c0 w0 c) w p B := by
  obtain ⟨a, b, d, e, f, hb⟩ := hb
  exact ⟨a, b, d, e, f, hb.out h⟩
theorem PgX.len (h : PgX c w p M B vL vD vC ds cs) : ds.length = B.d.length ∧ cs.length = B.d.length := ⟨by have := h.rd.len; simpa using this, by have := h.rc.len; simpa using this⟩
theorem PgX.one (h : PgX c w p M B vL vD vC ds cs) : (vL.oneCell' = true ∧ vD.oneCell' = true ∧ vC.oneCell' = true) ∧ vL.cells = #[vL] ∧ vD.cells = #[vD] ∧ vC.cells = #[vC] := ⟨⟨h.live.oneC, h.disk.oneC, h.cache.oneC⟩, h.live.cellsV, h.disk.cellsV, h.cache.cellsV⟩
theorem PgX.celL (h : PgX c w p M B vL vD vC ds cs) {k : Nat} (hk : k < B.d.length) : CelC c w [81] (elemA vL 1 (k : Int).toNat) [.bool (dskA B k).live] :=
  h.live.elem1 (by rw [List.getElem?_map, dskA_at hk]; rfl)
theorem RowsC.at_ {i : Nat} {t : TypeId} {vs : List Value} {L : List (List Txt)} (h : RowsC c w i t vs L) {k : Nat} {l : List Txt} (hk : L[k]? = some l) : ∃ v, vs[k]? = some v ∧ OwnC c w i t 1 v l.length (l.map St) := by
  obtain ⟨h1, rfl⟩ := List.getElem?_eq_some_iff.1 hk
  have h2 : k < vs.length := by rw [h.len]; exact h1
  exact ⟨vs[k], List.getElem?_eq_getElem h2, h.row k _ _ (List.getElem?_eq_getElem h2) hk⟩
theorem Eff.rowStore {P : Program} {env : Env} {ty t : TypeId} {x y : Operand} {i k j : Nat} {T : TypeId} {vs : List Value} {L : List (List Txt)} {v : Value} {l : List Txt} {s : Txt} (ht : sclT P t = true) (h : RowsC c w i T vs L) (hv : vs[k]? = some v) (hl : L[k]? = some l)
    (hx : evO env x = some (.pointer (some (elemA v 1 j)))) (hy : evO env y = some (St s)) (hj : j < l.length) : Eff P env w (.store t x y) ty (fun _ w' => ∃ c', Mv c w c' w' [i] ∧ RowsC c' w' i T vs (L.set k (l.set j s))) :=
  (Eff.storeOwn ht (h.row k v l hv hl).own hj hx hy rfl rfl).mono fun _ w' ⟨h1, h2, _⟩ => by
    have ho := h.row k v l hv hl
    obtain ⟨c', hm, _⟩ := Mv.grown (i := i) c i h2 ho.col
    exact ⟨c', hm, h.put hv ⟨by rw [List.length_set, List.map_set]; exact h1, fun b hb => (hm.col b (ho.own.lt b hb).2).trans (ho.col b hb)⟩ h2 hm.col⟩
end
end Go.Eng
namespace Go.Proofs.Ytjddnaefmikccaa
open Go Go.Eng Go.RowKit Silo TryT
section
variable {c : Nat → Nat} {w : World} {p : Nat} {B : Arr} {d : Int}
theorem numD (B : Arr) (d : Int) : (decide (0 ≤ d) && decide (d ≤ (B.d.length : Int) - 1)) = isA B d := by
  simp only [isA]
  congr 1
  by_cases h : d < (B.d.length : Int)
  · rw [decide_eq_true h, decide_eq_true (by omega)]
  · rw [decide_eq_false h, decide_eq_false (by omega)]
theorem pasked_ok (h : PgC c w p B) (hB : WfB B) {form : Bool} : Calls Try.prog 51 #[.pointer (some ⟨p, 0, none⟩), I d, .bool form] w (Ret fun u w' => Below w.heap.size w w' ∧ u = I (askedP B d form)) := by
  obtain ⟨vL, vD, vC, ds, cs, h⟩ := h
  have hR := OldR.start c w colP
  replace h := h.inn
  generalize mask c colP = c0 at hR h
  have hb0 := h.hbp
  have hz := hB.wf.many
  refine enter (n := 34) (res := #[.tmp 6]) Try.func51 rfl rfl rfl rfl ?_
  refine cseq <| cg <| za rfl <| cnil <| cseq <| cblock <| cseq <| cg <| zm rfl ?_
  refine zm rfl <| vq (Val.nilCheck rfl) <| vq (Val.fieldAddr fld52_0 rfl) <| vq (Val.loadB scl3 rfl hb0.blk rfl) <| vq (Val.subI rfl rfl side side) ?_
  refine ve (Eff.pureC c0 1 (Eff.call pf50 rfl (num_ok _ _))) ?_
  rintro v14 w1 ⟨c1, hM1, hx1, rfl⟩
  replace hR := hR.mv hM1; replace hb0 := hb0.mv hM1; replace h := h.mv hM1
  rw [numD]
  refine vq (Val.not rfl) <| za rfl <| cnil ?_
  refine WC.cond rfl (fun hc1 => ?_) (fun hc1 => ?_)
  ·try simp only [tstS] at hc1
   refine cseq <| cg <| za rfl <| cnil ?_
   refine WC.ret1 rfl rfl ?_
   exact ⟨hR.below, by simp [askedP, hc1]⟩
  ·try simp only [tstS] at hc1
   obtain ⟨k, rfl, hk⟩ := isA_nat hc1
   refine cseq <| cg <| zm rfl <| vq (Val.not rfl) <| za rfl <| cnil ?_
   refine WC.cond rfl (fun hc3 => ?_) (fun hc3 => ?_)
   ·try simp only [tstS] at hc3
    refine cseq <| cg <| za rfl <| cnil ?_
    refine WC.ret1 rfl rfl ?_
    exact ⟨hR.below, by simp [askedP, hc1, hc3]⟩
   ·try simp only [tstS] at hc3
    refine cseq <| cg <| zm rfl <| vq (Val.nilCheck rfl) <| vq (Val.fieldAddr fld52_5 rfl) <| vq (Val.loadB scl3 rfl hb0.blk rfl) <| vq (Val.eql rfl rfl) <| za rfl <| cnil ?_
    refine WC.cond rfl (fun hc5 => ?_) (fun hc5 => ?_)
    ·try simp only [tstS] at hc5
     refine cseq <| cg <| za rfl <| cnil ?_
     refine WC.ret1 rfl rfl ?_
     exact ⟨hR.below, by simp [askedP, hc1, hc3, mayA, hB.off, hc5]⟩
    ·try simp only [tstS] at hc5
     refine cseq ?_
     have hc31 := h.celL hk
     have hLv := h.live
     have hll : (B.d.map fun x => Value.bool x.live).length = B.d.length := List.length_map ..
     refine cg <| zm rfl <| vq (Val.nilCheck rfl) <| vq (Val.fieldAddr fld52_2 rfl) <| vq (Val.loadB scl49 rfl hb0.blk rfl) <| zm rfl <| vq (Val.indexO sl49 hLv rfl rfl (by omega) (by omega)) <| vq (Val.loadE1 scl4 rfl hc31.cel) <| vq (Val.not rfl) ?_
     refine za rfl <| cnil ?_
     refine WC.cond rfl (fun hc7 => ?_) (fun hc7 => ?_)
     ·try simp only [tstS] at hc7
      refine cseq <| cg <| za rfl <| cnil ?_
      refine WC.ret1 rfl rfl ?_
      exact ⟨hR.below, by simp [askedP, hc1, hc3, mayA, hB.off, hc5, hc7]⟩
     ·try simp only [tstS] at hc7
      refine cskip <| cseq <| cg <| za rfl <| cnil ?_
      refine WC.ret1 rfl rfl ?_
      exact ⟨hR.below, by simp [askedP, hc1, hc3, mayA, hB.off, hc5, hc7]⟩
theorem pis_ok (h : PgC c w p B) (hB : WfB B) : Calls Try.prog 46 #[.pointer (some ⟨p, 0, none⟩), I d] w (Ret fun u w' => Below w.heap.size w w' ∧ u = .bool (liveA B d)) := by
  obtain ⟨vL, vD, vC, ds, cs, h⟩ := h
  have hR := OldR.start c w colP
  replace h := h.inn
  generalize mask c colP = c0 at hR h
  have hb0 := h.hbp
  have hz := hB.wf.many
  refine enter (n := 21) (res := #[.tmp 4]) Try.func46 rfl rfl rfl rfl ?_
  refine cseq <| cg <| za rfl <| cnil <| cseq <| cg <| zm rfl <| zm rfl <| vq (Val.nilCheck rfl) ?_
  refine vq (Val.fieldAddr fld52_0 rfl) <| vq (Val.loadB scl3 rfl hb0.blk rfl) <| vq (Val.subI rfl rfl side side) ?_
  refine ve (Eff.pureC c0 1 (Eff.call pf50 rfl (num_ok _ _))) ?_
  rintro v11 w1 ⟨c1, hM1, hx1, rfl⟩
  replace hR := hR.mv hM1; replace hb0 := hb0.mv hM1; replace h := h.mv hM1
  rw [numD]
  refine zm rfl ?_
  apply WR.sc true 7 (dskA B d.toNat).live (fun w' => w1 = w')
  case hl | hg | hu | hv | hs | hoff | hd => rfl
  case hF => exact fun _ => rfl
  case hT =>
   intro hq15
   try simp only [tstS] at hq15
   simp only [List.take_succ_cons, List.take_zero]
   obtain ⟨k, rfl, hk⟩ := isA_nat hq15
   have hc18 := h.celL hk
   have hLv := h.live
   have hll : (B.d.map fun x => Value.bool x.live).length = B.d.length := List.length_map ..
   refine WR.on rfl rfl ?_
   refine zm rfl ?_
   refine WR.on rfl rfl ?_
   refine vq (Val.nilCheck rfl) ?_
   refine WR.on rfl rfl ?_
   refine vq (Val.fieldAddr fld52_2 rfl) ?_
   refine WR.on rfl rfl ?_
   refine vq (Val.loadB scl49 rfl hb0.blk rfl) ?_
   refine WR.on rfl rfl ?_
   refine zm rfl ?_
   refine WR.on rfl rfl ?_
   refine vq (Val.indexO sl49 hLv rfl rfl (by omega) (by omega)) ?_
   refine WR.on rfl rfl ?_
   refine vq (Val.loadE1 scl4 rfl hc18.cel) ?_
   exact WR.nil ⟨rfl, Sub.drop _ 7 _ rfl rfl, rfl⟩
  rintro _ rfl
  refine za rfl <| cnil ?_
  refine WC.ret1 rfl rfl ?_
  exact ⟨hR.below, rfl⟩
theorem pchanges_ok (h : PgC c w p B) (h1 : B.changes ≤ 4611686018427387904) (h2 : -1 ≤ B.left) (h3 : B.left ≤ 9223372036854775807) : Calls Try.prog 57 #[.pointer (some ⟨p, 0, none⟩)] w (Ret fun _ w' => ∃ c', Mv c w c' w' colP ∧ PgC c' w' p (changedA B)) := by
  obtain ⟨vL, vD, vC, ds, cs, h⟩ := h
  obtain ⟨⟨q1, q2, q3⟩, q4, q5, q6⟩ := h.one
  have hJ := OldJ.start c w colP
  replace h := h.inn
  generalize mask c colP = c0 at hJ h
  obtain ⟨hb0, hL, hvD, hvC, hRd, hRc⟩ := h
  refine enter (n := 21) (res := #[]) Try.func57 rfl rfl rfl rfl ?_
  refine cseq <| cg <| zm rfl <| vq (Val.nilCheck rfl) <| vq (Val.fieldAddr fld52_6 rfl) <| vq (Val.loadB scl3 rfl hb0.blk rfl) <| vq (Val.addI rfl rfl side side) <| vq (Val.nilCheck rfl) <| vq (Val.fieldAddr fld52_6 rfl) ?_
  refine WR.eff_ (Eff.storeC scl3 rfl rfl ra ra hb0 rfl) ?_
  rintro _ w1 ⟨hS, hM1⟩
  replace hJ := hJ.mv hM1; replace hL := hL.mv hM1; replace hvD := hvD.mv hM1; replace hvC := hvC.mv hM1; replace hRd := hRd.mv hM1; replace hRc := hRc.mv hM1
  replace hb0 := hS
  refine cnil <| cseq <| cg <| zm rfl <| vq (Val.nilCheck rfl) <| vq (Val.fieldAddr fld52_5 rfl) <| vq (Val.loadB scl3 rfl hb0.blk rfl) <| vq (Val.gtr rfl rfl) <| cnil ?_
  refine WC.cond rfl (fun hc1 => ?_) (fun hc1 => ?_)
  ·try simp only [tstS] at hc1
   refine cg <| zm rfl <| vq (Val.nilCheck rfl) <| vq (Val.fieldAddr fld52_5 rfl) <| vq (Val.loadB scl3 rfl hb0.blk rfl) <| vq (Val.subI rfl rfl side side) <| vq (Val.nilCheck rfl) <| vq (Val.fieldAddr fld52_5 rfl) ?_
   refine WR.eff_ (Eff.storeC scl3 rfl rfl ra ra hb0 rfl) ?_
   rintro _ w2 ⟨hS, hM2⟩
   replace hJ := hJ.mv hM2; replace hL := hL.mv hM2; replace hvD := hvD.mv hM2; replace hvC := hvC.mv hM2; replace hRd := hRd.mv hM2; replace hRc := hRc.mv hM2
   replace hb0 := hS
   refine cnil ?_
   refine ⟨_, _, rfl, rfl, ?_⟩
   refine ⟨rfl, _, hJ.out, PgX.shut (PgX.out ⟨?_, hL, hvD, hvC, hRd, hRc⟩ hJ)⟩
   rw [changedA, if_pos (by omega), if_pos (by omega)]
   exact hb0
  ·try simp only [tstS] at hc1
   refine cskip ?_
   refine ⟨_, _, rfl, rfl, ?_⟩
   refine ⟨rfl, _, hJ.out, PgX.shut (PgX.out ⟨?_, hL, hvD, hvC, hRd, hRc⟩ hJ)⟩
   rw [changedA, if_neg (by omega), if_neg (by omega)]
   exact hb0
end
end Go.Proofs.Ytjddnaefmikccaa
