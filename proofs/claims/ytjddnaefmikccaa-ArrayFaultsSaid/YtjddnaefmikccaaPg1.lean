/- The page's disks: read, write, off, lost. No condition. -/
import Derived.Test.YtjddnaefmikccaaPg0
set_option linter.unusedSimpArgs false
set_option linter.unusedVariables false
set_option maxRecDepth 100000
namespace Silo
open Go.Eng
def sIn (B : Arr) (s : Int) : Bool := decide (0 ≤ s) && decide (s < B.sectors)
theorem inA_s (B : Arr) (d s : Int) : inA B d s = (isA B d && sIn B s) := rfl
theorem numS (B : Arr) (s : Int) : (decide (0 ≤ s) && decide (s ≤ (B.sectors : Int) - 1)) = sIn B s := by
  simp only [sIn]
  congr 1
  by_cases h : s < (B.sectors : Int)
  · rw [decide_eq_true h, decide_eq_true (by omega)]
  · rw [decide_eq_false h, decide_eq_false (by omega)]
theorem askedP_zero {B : Arr} {d : Int} {f : Bool} (h : askedP B d f = 0) : isA B d = true ∧ f = true ∧ mayA B d.toNat = 0 := by
  unfold askedP at h
  split at h
  · split at h
    · exact ⟨by assumption, by assumption, h⟩
    · omega
  · omega
theorem askedP_range (B : Arr) (d : Int) (f : Bool) : 0 ≤ askedP B d f ∧ askedP B d f ≤ 9 := by
  unfold askedP mayA; split <;> (try split) <;> (try split) <;> (try split) <;> omega
theorem readA_err {B : Arr} {d s : Int} (hs : sIn B s = true) (h : askedP B d true ≠ 0) : readA B d s = ([], askedP B d true) := by
  unfold readA askedP at *
  rw [inA_s, hs, Bool.and_true]
  cases hi : isA B d with
  | false => simp
  | true =>
    rw [hi] at h
    simp only [if_true] at h ⊢
    rw [if_neg h]
theorem writeA_err {B : Arr} {d s : Int} {t : Txt} (hs : sIn B s = true) (h : askedP B d (decide (t.length = 64)) ≠ 0) : writeA B d s t = (B, askedP B d (decide (t.length = 64))) := by
  unfold writeA askedP at *
  rw [inA_s, hs, Bool.and_true]
  cases hi : isA B d with
  | false => simp
  | true =>
    rw [hi] at h
    simp only [if_true] at h ⊢
    by_cases ht : t.length = 64
    · simp only [ht, decide_true, if_true] at h ⊢
      rw [if_neg h]
    · simp [ht]
def offP (B : Arr) (n : Int) : Arr := if B.left = 0 then B else { B with left := max (-1) n, off := decide (max (-1) n = 0) }
def loseP (B : Arr) (d : Int) : Arr × Int := if isA B d then (setD B d.toNat { dskA B d.toNat with live := false }, 0) else (B, 3)
end Silo
namespace Go.Eng
open Go Go.RowKit Silo
section
variable {c c' : Nat → Nat} {w w' : World} {p M : Nat} {B : Arr} {vL vD vC : Value} {ds cs : List Value} {K : List Nat}
theorem PgX.rows (h : PgX c w p M B vL vD vC ds cs) {k : Nat} (hk : k < B.d.length) : ∃ vd vc, ds[k]? = some vd ∧ cs[k]? = some vc ∧ OwnC c w 84 9 1 vd (dskA B k).l.length ((dskA B k).l.map St) ∧ OwnC c w 85 9 1 vc (dskA B k).cache.length ((dskA B k).cache.map St) ∧
    CelC c w [82] (elemA vD 1 (k : Int).toNat) [vd] ∧ CelC c w [83] (elemA vC 1 (k : Int).toNat) [vc] := by
  obtain ⟨vd, h1, h2⟩ := h.rd.at_ (k := k) (l := (dskA B k).l) (by rw [List.getElem?_map, dskA_at hk]; rfl)
  obtain ⟨vc, h3, h4⟩ := h.rc.at_ (k := k) (l := (dskA B k).cache) (by rw [List.getElem?_map, dskA_at hk]; rfl)
  exact ⟨vd, vc, h1, h3, h2, h4, h.disk.elem1 h1, h.cache.elem1 h3⟩
theorem setD_live {B : Arr} {k : Nat} (hk : k < B.d.length) {x : Dsk} (hx : x.live = (dskA B k).live) : (setD B k x).d.map (fun x => Value.bool x.live) = B.d.map fun x => Value.bool x.live := map_set_same (fun x : Dsk => Value.bool x.live) (dskA_at hk) (by simp [hx])
theorem setD_l {B : Arr} {k : Nat} (hk : k < B.d.length) {x : Dsk} (hx : x.l = (dskA B k).l) : (setD B k x).d.map (·.l) = B.d.map (·.l) := map_set_same (·.l) (dskA_at hk) hx
theorem setD_c {B : Arr} {k : Nat} (hk : k < B.d.length) {x : Dsk} (hx : x.cache = (dskA B k).cache) : (setD B k x).d.map (·.cache) = B.d.map (·.cache) := map_set_same (·.cache) (dskA_at hk) hx
theorem setD_len (B : Arr) (k : Nat) (x : Dsk) : (setD B k x).d.length = B.d.length := List.length_set
/-- A disk is another now. -/
theorem PgX.set (h : PgX c w p M B vL vD vC ds cs) {k : Nat} {x : Dsk} (hL : OwnC c w 81 4 1 vL (B.d.map fun x => Value.bool x.live).length ((B.d.set k x).map fun x => Value.bool x.live)) (hd : RowsC c w 84 9 ds ((B.d.map (·.l)).set k x.l)) (hc : RowsC c w 85 9 cs ((B.d.map (·.cache)).set k x.cache)) :
    PgX c w p M (setD B k x) vL vD vC ds cs := by
  refine ⟨?_, ?_, h.disk, h.cache, ?_, ?_⟩
  · exact h.hbp
  · have e : ((setD B k x).d.map fun x => Value.bool x.live).length = (B.d.map fun x => Value.bool x.live).length := by rw [List.length_map, List.length_map, setD_len]
    rw [e]; exact hL
  · show RowsC _ _ _ _ _ ((B.d.set k x).map _)
    rw [List.map_set]; exact hd
  · show RowsC _ _ _ _ _ ((B.d.set k x).map _)
    rw [List.map_set]; exact hc
/-- The pieces of a disk, turned. -/
theorem PgX.turnC {c c' : Nat → Nat} {w w' : World} {k j : Nat} {t : Txt} (hk : k < B.d.length) (h : PgX c w p M B vL vD vC ds cs) (m : Mv c w c' w' [85]) (hr : RowsC c' w' 85 9 cs ((B.d.map (·.cache)).set k ((dskA B k).cache.set j t))) :
    PgX c' w' p M (setD B k { dskA B k with cache := (dskA B k).cache.set j t }) vL vD vC ds cs := by
  refine ⟨?_, ?_, h.disk.mv m, h.cache.mv m, ?_, ?_⟩
  · exact h.hbp.mv m
  · rw [setD_live hk (by rfl)]; exact h.live.mv m
  · rw [setD_l hk (by rfl)]; exact h.rd.mv m
  · show RowsC _ _ _ _ _ ((B.d.set k _).map _)
    rw [List.map_set]; exact hr
theorem PgX.turnD {c c' : Nat → Nat} {w w' : World} {k j : Nat} {t : Txt} (hk : k < B.d.length) (h : PgX c w p M B vL vD vC ds cs) (m : Mv c w c' w' [84]) (hr : RowsC c' w' 84 9 ds ((B.d.map (·.l)).set k ((dskA B k).l.set j t))) :
    PgX c' w' p M (setD B k { dskA B k with l := (dskA B k).l.set j t }) vL vD vC ds cs := by
  refine ⟨?_, ?_, h.disk.mv m, h.cache.mv m, ?_, ?_⟩
  · exact h.hbp.mv m
  · rw [setD_live hk (by rfl)]; exact h.live.mv m
  · show RowsC _ _ _ _ _ ((B.d.set k _).map _)
    rw [List.map_set]; exact hr
  · rw [setD_c hk (by rfl)]; exact h.rc.mv m
variable {P : Program} {env : Env} {ty : TypeId}
/-- A text stored into a cache; onto a disk. -/
theorem Eff.pcStore {t : TypeId} {x y : Operand} {k j : Nat} {vc : Value} {s : Txt} (ht : sclT P t = true) (h : PgX c w p M B vL vD vC ds cs) (hk : k < B.d.length) (hv : cs[k]? = some vc)
    (hx : evO env x = some (.pointer (some (elemA vc 1 j)))) (hy : evO env y = some (St s)) (hj : j < (dskA B k).cache.length) : Eff P env w (.store t x y) ty (fun _ w' => ∃ c', Mv c w c' w' [85] ∧ PgX c' w' p M (setD B k { dskA B k with cache := (dskA B k).cache.set j s }) vL vD vC ds cs) :=
  (Eff.rowStore ht h.rc hv (by rw [List.getElem?_map, dskA_at hk]; rfl) hx hy hj).mono fun _ _ ⟨c', hm, hr⟩ => ⟨c', hm, PgX.turnC hk h hm hr⟩
theorem Eff.pdStore {t : TypeId} {x y : Operand} {k j : Nat} {vd : Value} {s : Txt} (ht : sclT P t = true) (h : PgX c w p M B vL vD vC ds cs) (hk : k < B.d.length) (hv : ds[k]? = some vd)
    (hx : evO env x = some (.pointer (some (elemA vd 1 j)))) (hy : evO env y = some (St s)) (hj : j < (dskA B k).l.length) : Eff P env w (.store t x y) ty (fun _ w' => ∃ c', Mv c w c' w' [84] ∧ PgX c' w' p M (setD B k { dskA B k with l := (dskA B k).l.set j s }) vL vD vC ds cs) :=
  (Eff.rowStore ht h.rd hv (by rw [List.getElem?_map, dskA_at hk]; rfl) hx hy hj).mono fun _ _ ⟨c', hm, hr⟩ => ⟨c', hm, PgX.turnD hk h hm hr⟩
theorem Eff.plStore {t : TypeId} {x y : Operand} {k : Nat} {b : Bool} (ht : sclT P t = true) (h : PgX c w p M B vL vD vC ds cs) (hk : k < B.d.length)
    (hx : evO env x = some (.pointer (some (elemA vL 1 k)))) (hy : evO env y = some (.bool b)) : Eff P env w (.store t x y) ty (fun _ w' => ∃ c', Mv c w c' w' [81] ∧ PgX c' w' p M (setD B k { dskA B k with live := b }) vL vD vC ds cs) :=
  (Eff.storeOC ht h.live (by rw [List.length_map]; exact hk) hx hy rfl rfl).mono fun _ _ ⟨ho, hm⟩ => by
    refine ⟨c, hm, ?_, ?_, h.disk.mv hm, h.cache.mv hm, ?_, ?_⟩
    · exact h.hbp.mv hm
    · show OwnC _ _ _ _ _ _ ((B.d.set k _).map _).length ((B.d.set k _).map _)
      rw [List.map_set, List.length_set]; exact ho
    · rw [setD_l hk (by rfl)]; exact h.rd.mv hm
    · rw [setD_c hk (by rfl)]; exact h.rc.mv hm
end
end Go.Eng
namespace Go.Proofs.Ytjddnaefmikccaa
open Go Go.Eng Go.RowKit Silo TryT
section
variable {c : Nat → Nat} {w : World} {p : Nat} {B : Arr} {d : Int}
theorem pread_ok (h : PgC c w p B) (hB : WfB B) {s : Int} : Calls Try.prog 25 #[.pointer (some ⟨p, 0, none⟩), I d, I s] w (Ret fun u w' => Below w.heap.size w w' ∧ u = .tuple #[St (readA B d s).1, I (readA B d s).2]) := by
  obtain ⟨vL, vD, vC, ds, cs, h⟩ := h
  have hR := OldR.start c w colP
  replace h := h.inn
  generalize mask c colP = c0 at hR h
  have hb0 := h.hbp
  have hz := hB.wf.sec
  refine enter (n := 54) (res := #[.tmp 6, .tmp 7]) Try.func25 rfl rfl rfl rfl ?_
  refine cseq <| cg <| za rfl <| za rfl <| cnil <| cseq <| cseq <| cg <| zm rfl ?_
  refine zm rfl <| vq (Val.nilCheck rfl) <| vq (Val.fieldAddr fld52_1 rfl) <| vq (Val.loadB scl3 rfl hb0.blk rfl) <| vq (Val.subI rfl rfl side side) ?_
  refine ve (Eff.pureC c0 1 (Eff.call pf50 rfl (num_ok _ _))) ?_
  rintro v15 w1 ⟨c1, hM1, hx1, rfl⟩
  replace hR := hR.mv hM1; replace hb0 := hb0.mv hM1; replace h := h.mv hM1
  rw [numS]
  refine vq (Val.not rfl) <| cnil ?_
  refine WC.cond rfl (fun hc1 => ?_) (fun hc1 => ?_)
  ·try simp only [tstS] at hc1
   refine cseq <| cg <| za rfl <| za rfl <| cnil ?_
   refine WC.ret2 rfl rfl rfl ?_
   exact ⟨hR.below, by rw [readA, inA_s, hc1]; simp⟩
  ·try simp only [tstS] at hc1
   refine cskip <| cseq <| cg <| zm rfl <| zm rfl ?_
   refine ve (Eff.pureC c1 1 (Eff.call pf51 rfl (pasked_ok h.shut hB))) ?_
   rintro v19 w2 ⟨c2, hM2, hx2, rfl⟩
   replace hR := hR.mv hM2; replace hb0 := hb0.mv hM2; replace h := h.mv hM2
   refine za rfl <| cnil <| cseq <| cseq <| cg <| zm rfl <| vq (Val.neq rfl rfl) <| cnil ?_
   refine WC.cond rfl (fun hc4 => ?_) (fun hc4 => ?_)
   ·try simp only [tstS] at hc4
    refine cseq <| cg <| zm rfl <| za rfl <| za rfl <| cnil ?_
    refine WC.ret2 rfl rfl rfl ?_
    exact ⟨hR.below, by rw [readA_err hc1 hc4]⟩
   ·try simp only [tstS] at hc4
    obtain ⟨hi, _, hm0⟩ := askedP_zero hc4
    have hin : inA B d s = true := by rw [inA_s, hi, hc1]; rfl
    obtain ⟨k, j, rfl, rfl, hk, hj⟩ := inA_nat hin
    have hm : mayA B k = 0 := hm0
    have hx := hB.wf.each _ (List.mem_of_getElem? (dskA_at hk))
    have z1 := hx.ll; have z2 := hx.lc
    obtain ⟨hl1, hl2⟩ := h.len
    obtain ⟨vd, vc, hvd, hvc, hod, hoc, hc49, hc28⟩ := h.rows hk
    have hc39 := hc28
    have hc31 := hoc.elemT (j := (j : Int).toNat) (by omega)
    have hc42 := hc31
    have hc52 := hod.elemT (j := (j : Int).toNat) (by omega)
    have hcc := h.cache; have hdd := h.disk
    refine cskip <| cseq <| cseq <| cg <| zm rfl <| vq (Val.nilCheck rfl) <| vq (Val.fieldAddr fld52_4 rfl) <| vq (Val.loadB scl50 rfl hb0.blk rfl) <| zm rfl ?_
    refine vq (Val.indexO sl50 hcc rfl rfl (by omega) (by omega)) <| vq (Val.loadE1 scl59 rfl hc28.cel) <| zm rfl <| vq (Val.indexO sl59 hoc rfl rfl (by omega) (by omega)) <| vq (Val.loadE1 scl9 rfl hc31.cel) <| vq (Val.sne rfl rfl) <| cnil ?_
    refine WC.cond rfl (fun hc6 => ?_) (fun hc6 => ?_)
    ·try simp only [tstS] at hc6
     refine cseq <| cg <| zm rfl <| vq (Val.nilCheck rfl) <| vq (Val.fieldAddr fld52_4 rfl) <| vq (Val.loadB scl50 rfl hb0.blk rfl) <| zm rfl <| vq (Val.indexO sl50 hcc rfl rfl (by omega) (by omega)) <| vq (Val.loadE1 scl59 rfl hc39.cel) ?_
     refine zm rfl <| vq (Val.indexO sl59 hoc rfl rfl (by omega) (by omega)) <| vq (Val.loadE1 scl9 rfl hc42.cel) <| za rfl <| za rfl <| cnil ?_
     refine WC.ret2 rfl rfl rfl ?_
     exact ⟨hR.below, by simp [readA, hin, hm]; intro e; simp [e] at hc6⟩
    ·try simp only [tstS] at hc6
     refine cskip <| cseq <| cg <| zm rfl <| vq (Val.nilCheck rfl) <| vq (Val.fieldAddr fld52_3 rfl) <| vq (Val.loadB scl50 rfl hb0.blk rfl) <| zm rfl <| vq (Val.indexO sl50 hdd rfl rfl (by omega) (by omega)) ?_
     refine vq (Val.loadE1 scl59 rfl hc49.cel) <| zm rfl <| vq (Val.indexO sl59 hod rfl rfl (by omega) (by omega)) <| vq (Val.loadE1 scl9 rfl hc52.cel) <| za rfl <| za rfl <| cnil ?_
     refine WC.ret2 rfl rfl rfl ?_
     exact ⟨hR.below, by simp [readA, hin, hm]; intro e; exact absurd (by simpa using hc6) e⟩
theorem pwrite_ok (h : PgC c w p B) (hB : WfB B) {s : Int} {t : Txt} : Calls Try.prog 34 #[.pointer (some ⟨p, 0, none⟩), I d, I s, St t] w (Ret fun u w' => ∃ c', Mv c w c' w' colP ∧ PgC c' w' p (writeA B d s t).1 ∧ u = I (writeA B d s t).2) := by
  obtain ⟨vL, vD, vC, ds, cs, h⟩ := h
  have hJ := OldJ.start c w colP
  replace h := h.inn
  generalize mask c colP = c0 at hJ h
  have hb0 := h.hbp
  have hz := hB.wf.sec; have z3 := hB.wf.chg; have z4 := hB.wf.left
  refine enter (n := 39) (res := #[.tmp 8]) Try.func34 rfl rfl rfl rfl ?_
  refine cseq <| cg <| za rfl <| cnil <| cseq <| cseq <| cg <| zm rfl <| zm rfl ?_
  refine vq (Val.nilCheck rfl) <| vq (Val.fieldAddr fld52_1 rfl) <| vq (Val.loadB scl3 rfl hb0.blk rfl) <| vq (Val.subI rfl rfl side side) ?_
  refine ve (Eff.pureC c0 1 (Eff.call pf50 rfl (num_ok _ _))) ?_
  rintro v16 w1 ⟨c1, hM1, hx1, rfl⟩
  replace hJ := hJ.mv hM1; replace hb0 := hb0.mv hM1; replace h := h.mv hM1
  rw [numS]
  refine vq (Val.not rfl) <| cnil ?_
  refine WC.cond rfl (fun hc1 => ?_) (fun hc1 => ?_)
  ·try simp only [tstS] at hc1
   refine cseq <| cg <| za rfl <| cnil ?_
   refine WC.ret1 rfl rfl ?_
   have e : writeA B d s t = (B, 3) := by rw [writeA, inA_s, hc1]; simp
   rw [e]; exact ⟨_, hJ.out, (h.out hJ).shut, rfl⟩
  ·try simp only [tstS] at hc1
   refine cskip <| cseq <| cg <| zm rfl <| zm rfl <| zm rfl <| vq (Val.slen Try.underlying9 rfl) <| vq (Val.eql rfl rfl) ?_
   refine ve (Eff.pureC c1 1 (Eff.call pf51 rfl (pasked_ok h.shut hB))) ?_
   rintro v23 w2 ⟨c2, hM2, hx2, rfl⟩
   replace hJ := hJ.mv hM2; replace hb0 := hb0.mv hM2; replace h := h.mv hM2
   rw [show decide ((t.length : Int) = 64) = decide (t.length = 64) by congr 1; exact propext ⟨fun h => by omega, fun h => by omega⟩]
   refine za rfl <| cnil <| cseq <| cseq <| cg <| zm rfl <| vq (Val.eql rfl rfl) <| cnil ?_
   refine WC.cond rfl (fun hc4 => ?_) (fun hc4 => ?_)
   ·try simp only [tstS] at hc4
    obtain ⟨hi, ht, hm⟩ := askedP_zero hc4
    have ht' : t.length = 64 := of_decide_eq_true ht
    have hin : inA B d s = true := by rw [inA_s, hi, hc1]; rfl
    obtain ⟨k, j, rfl, rfl, hk, hj⟩ := inA_nat hin
    have hx := hB.wf.each _ (List.mem_of_getElem? (dskA_at hk))
    have z1 := hx.ll; have z2 := hx.lc
    obtain ⟨hl1, hl2⟩ := h.len
    obtain ⟨vd, vc, hvd, hvc, hod, hoc, _, hc31⟩ := h.rows hk
    have hcc := h.cache
    refine cseq <| cg <| zm rfl <| vq (Val.nilCheck rfl) <| vq (Val.fieldAddr fld52_4 rfl) <| vq (Val.loadB scl50 rfl hb0.blk rfl) <| zm rfl <| vq (Val.indexO sl50 hcc rfl rfl (by omega) (by omega)) <| vq (Val.loadE1 scl59 rfl hc31.cel) ?_
    refine zm rfl <| zm rfl <| vq (Val.indexO sl59 hoc rfl rfl (by omega) (by omega)) ?_
    refine WR.eff_ (Eff.pcStore scl9 h hk hvc rfl rfl (by rw [Int.toNat_natCast]; omega)) ?_
    rintro _ w9 ⟨c9, hM9, h9⟩
    clear h hb0 hc31
    replace hJ := hJ.mv hM9
    have hP := h9.shut
    refine cnil <| cg <| zm rfl ?_
    refine ve (Eff.call pf57 rfl (pchanges_ok hP z3 z4.1 z4.2)) ?_
    rintro v37 w3 ⟨c3, hM3, hP⟩
    replace hJ := hJ.mv hM3
    have e : writeA B k j t = (changedA (setD B k { dskA B k with cache := (dskA B k).cache.set j t }), 0) := by
      have hm' : mayA B k = 0 := hm
      simp [writeA, hin, ht', hm']
    have ea := hc4
    refine cnil <| cseq <| cg <| zm rfl <| za rfl <| cnil ?_
    refine WC.ret1 rfl rfl ?_
    first
    | (rw [e]; exact ⟨_, hJ.out, hP.out hJ, by rw [ea]⟩)
    | (rw [e]; exact ⟨_, hJ.out, (h.out hJ).shut, rfl⟩)
   ·try simp only [tstS] at hc4
    have e := writeA_err (t := t) hc1 hc4
    refine cskip <| cseq <| cg <| zm rfl <| za rfl <| cnil ?_
    refine WC.ret1 rfl rfl ?_
    first
    | (rw [e]; exact ⟨_, hJ.out, hP.out hJ, by rw [ea]⟩)
    | (rw [e]; exact ⟨_, hJ.out, (h.out hJ).shut, rfl⟩)
end
end Go.Proofs.Ytjddnaefmikccaa
