/- The page's disks: off, lost, flush. No condition. -/
import Derived.Test.YtjddnaefmikccaaPg1
set_option linter.unusedSimpArgs false
set_option linter.unusedVariables false
set_option maxRecDepth 100000
namespace Silo
open Go.Eng
theorem dskA_set {B : Arr} {k : Nat} {x : Dsk} (hk : k < B.d.length) : dskA (setD B k x) k = x := by simp [dskA, setD, hk]
theorem setD_set (B : Arr) (k : Nat) (x y : Dsk) : setD (setD B k x) k y = setD B k y := by simp [setD, List.set_set]
theorem setD_self {B : Arr} {k : Nat} (hk : k < B.d.length) : setD B k (dskA B k) = B := by
  simp only [setD]
  rw [set_same (dskA_at hk)]
def mk (n : Nat) (f : Nat → Txt) : List Txt := (List.range n).map f
theorem mk_len (n : Nat) (f : Nat → Txt) : (mk n f).length = n := by simp [mk]
theorem tx_mk {n k : Nat} {f : Nat → Txt} (h : k < n) : tx (mk n f) k = f k := by
  rw [tx_get (by rw [mk_len]; exact h)]; simp [mk]
/-- The first i of a cache brought to the disk. -/
def flTo (i : Nat) (x : Dsk) : Dsk := ⟨x.live, mk x.l.length fun j => if j < i ∧ tx x.cache j ≠ [] then tx x.cache j else tx x.l j, mk x.cache.length fun j => if j < i then [] else tx x.cache j⟩
theorem mk_tx (l : List Txt) : mk l.length (tx l) = l := tx_ext (mk_len _ _) fun k hk => tx_mk (by rwa [mk_len] at hk)
theorem mk_congr {n : Nat} {f g : Nat → Txt} (h : ∀ k, k < n → f k = g k) : mk n f = mk n g := tx_ext (by rw [mk_len, mk_len]) fun k hk => by
  rw [mk_len] at hk; rw [tx_mk hk, tx_mk hk, h k hk]
theorem mk_set {n i : Nat} {f : Nat → Txt} {t : Txt} (hi : i < n) : (mk n f).set i t = mk n fun j => if j = i then t else f j := tx_ext (by rw [List.length_set, mk_len, mk_len]) fun k hk => by
  rw [List.length_set, mk_len] at hk
  rw [tx_set (by rw [mk_len]; exact hi), tx_mk hk, tx_mk hk]
theorem flTo_zero (x : Dsk) : flTo 0 x = x := by
  obtain ⟨a, l, C⟩ := x
  simp only [flTo, Nat.not_lt_zero, false_and, if_false]
  rw [show (fun j => tx l j) = tx l from rfl, show (fun j => tx C j) = tx C from rfl, mk_tx, mk_tx]
theorem flTo_all {n : Nat} {x : Dsk} (hl : x.l.length = n) (hc : x.cache.length = n) : flTo n x = flushD x := by
  simp only [flTo, flushD]
  congr 1
  · refine tx_ext (by rw [mk_len, over_len]) fun k hk => ?_
    rw [mk_len] at hk
    rw [tx_mk hk, over_tx hk]
    by_cases h : tx x.cache k = []
    · rw [if_pos h, if_neg (by simp [h])]
    · rw [if_neg h, if_pos ⟨by omega, h⟩]
  · refine tx_ext (by rw [mk_len, List.length_replicate]) fun k hk => ?_
    rw [mk_len] at hk
    rw [tx_mk hk, if_pos (by omega)]
    simp [tx, List.getD_eq_getElem?_getD, hk]
theorem flTo_skip {i : Nat} {x : Dsk} (h : tx x.cache i = []) : flTo (i + 1) x = flTo i x := by
  simp only [flTo]
  congr 1
  · refine mk_congr fun k _ => ?_
    by_cases hk : k = i
    · subst hk; simp [h]
    · simp only [show (k < i + 1) = (k < i) from propext ⟨fun _ => by omega, fun _ => by omega⟩]
  · refine mk_congr fun k _ => ?_
    by_cases hk : k = i
    · subst hk; simp [h]
    · simp only [show (k < i + 1) = (k < i) from propext ⟨fun _ => by omega, fun _ => by omega⟩]
theorem flTo_go {i : Nat} {x : Dsk} (h : tx x.cache i ≠ []) (h1 : i < x.l.length) (h2 : i < x.cache.length) : flTo (i + 1) x = ⟨x.live, (flTo i x).l.set i (tx x.cache i), (flTo i x).cache.set i []⟩ := by
  simp only [flTo]
  rw [mk_set h1, mk_set h2]
  congr 1
  · refine mk_congr fun k _ => ?_
    by_cases hk : k = i
    · subst hk; simp [h]
    · simp only [show (k < i + 1) = (k < i) from propext ⟨fun _ => by omega, fun _ => by omega⟩, if_neg hk]
  · refine mk_congr fun k _ => ?_
    by_cases hk : k = i
    · subst hk; simp
    · simp only [show (k < i + 1) = (k < i) from propext ⟨fun _ => by omega, fun _ => by omega⟩, if_neg hk]
end Silo
namespace Go.Proofs.Ytjddnaefmikccaa
open Go Go.Eng Go.RowKit Silo TryT
section
variable {c : Nat → Nat} {w : World} {p : Nat} {B : Arr} {d : Int}
theorem poff_ok (h : PgC c w p B) {n : Int} : Calls Try.prog 37 #[.pointer (some ⟨p, 0, none⟩), I n] w (Ret fun _ w' => ∃ c', Mv c w c' w' colP ∧ PgC c' w' p (offP B n)) := by
  obtain ⟨vL, vD, vC, ds, cs, h⟩ := h
  obtain ⟨⟨q1, q2, q3⟩, q4, q5, q6⟩ := h.one
  have hJ := OldJ.start c w colP
  replace h := h.inn
  generalize mask c colP = c0 at hJ h
  obtain ⟨hb0, hL, hvD, hvC, hRd, hRc⟩ := h
  refine enter (n := 14) (res := #[]) Try.func37 rfl rfl rfl rfl ?_
  refine cseq <| cg <| zm rfl <| vq (Val.nilCheck rfl) <| vq (Val.fieldAddr fld52_5 rfl) <| vq (Val.loadB scl3 rfl hb0.blk rfl) <| vq (Val.neq rfl rfl) <| cnil ?_
  refine WC.cond rfl (fun hc0 => ?_) (fun hc0 => ?_)
  ·try simp only [tstS] at hc0
   refine cg <| zm rfl <| zm rfl <| vq (Val.maxI rfl rfl) <| vq (Val.nilCheck rfl) <| vq (Val.fieldAddr fld52_5 rfl) ?_
   refine WR.eff_ (Eff.storeC scl3 rfl rfl ra ra hb0 rfl) ?_
   rintro _ w1 ⟨hS, hM1⟩
   replace hJ := hJ.mv hM1; replace hL := hL.mv hM1; replace hvD := hvD.mv hM1; replace hvC := hvC.mv hM1; replace hRd := hRd.mv hM1; replace hRc := hRc.mv hM1
   replace hb0 := hS
   refine cnil ?_
   refine ⟨_, _, rfl, rfl, ?_⟩
   have e : offP B n = { B with left := max (-1) n, off := decide (max (-1) n = 0) } := if_neg hc0
   refine ⟨rfl, _, hJ.out, ?_⟩
   rw [e]
   exact PgX.shut (PgX.out (B := { B with left := max (-1) n, off := decide (max (-1) n = 0) }) ⟨hb0, hL, hvD, hvC, hRd, hRc⟩ hJ)
  ·try simp only [tstS] at hc0
   refine cskip ?_
   refine ⟨_, _, rfl, rfl, ?_⟩
   have e : offP B n = B := if_pos hc0
   rw [e]
   exact ⟨rfl, _, hJ.out, PgX.shut (PgX.out ⟨hb0, hL, hvD, hvC, hRd, hRc⟩ hJ)⟩
theorem plose_ok (h : PgC c w p B) (hB : WfB B) : Calls Try.prog 41 #[.pointer (some ⟨p, 0, none⟩), I d] w (Ret fun u w' => ∃ c', Mv c w c' w' colP ∧ PgC c' w' p (loseP B d).1 ∧ u = I (loseP B d).2) := by
  obtain ⟨vL, vD, vC, ds, cs, h⟩ := h
  have hJ := OldJ.start c w colP
  replace h := h.inn
  generalize mask c colP = c0 at hJ h
  have hb0 := h.hbp
  have hz := hB.wf.many
  refine enter (n := 19) (res := #[.tmp 4]) Try.func41 rfl rfl rfl rfl ?_
  refine cseq <| cg <| za rfl <| cnil <| cseq <| cseq <| cg <| zm rfl <| zm rfl ?_
  refine vq (Val.nilCheck rfl) <| vq (Val.fieldAddr fld52_0 rfl) <| vq (Val.loadB scl3 rfl hb0.blk rfl) <| vq (Val.subI rfl rfl side side) ?_
  refine ve (Eff.pureC c0 1 (Eff.call pf50 rfl (num_ok _ _))) ?_
  rintro v11 w1 ⟨c1, hM1, hx1, rfl⟩
  replace hJ := hJ.mv hM1; replace hb0 := hb0.mv hM1; replace h := h.mv hM1
  rw [numD]
  refine vq (Val.not rfl) <| cnil ?_
  refine WC.cond rfl (fun hc1 => ?_) (fun hc1 => ?_)
  ·try simp only [tstS] at hc1
   refine cseq <| cg <| za rfl <| cnil ?_
   refine WC.ret1 rfl rfl ?_
   exact ⟨_, hJ.out, by simpa [loseP, hc1] using (h.out hJ).shut, by simp [loseP, hc1]⟩
  ·try simp only [tstS] at hc1
   obtain ⟨k, rfl, hk⟩ := isA_nat hc1
   have hLv := h.live
   have hll : (B.d.map fun x => Value.bool x.live).length = B.d.length := List.length_map ..
   refine cskip <| cseq <| cg <| zm rfl <| vq (Val.nilCheck rfl) <| vq (Val.fieldAddr fld52_2 rfl) <| vq (Val.loadB scl49 rfl hb0.blk rfl) <| zm rfl <| vq (Val.indexO sl49 hLv rfl rfl (by omega) (by omega)) ?_
   refine WR.eff_ (Eff.plStore scl4 h hk rfl rfl) ?_
   rintro _ w9 ⟨c9, hM9, h9⟩
   clear h hb0
   replace hJ := hJ.mv hM9
   have hP := h9.shut
   refine cnil <| cseq <| cg <| za rfl <| cnil ?_
   refine WC.ret1 rfl rfl ?_
   exact ⟨_, hJ.out, by simpa [loseP, hc1] using hP.out hJ, by simp [loseP, hc1]⟩
set_option maxHeartbeats 1000000 in
theorem pflush_ok (h : PgC c w p B) (hB : WfB B) : Calls Try.prog 35 #[.pointer (some ⟨p, 0, none⟩), I d] w (Ret fun u w' => ∃ c', Mv c w c' w' colP ∧ PgC c' w' p (flushA B d).1 ∧ u = I (flushA B d).2) := by
  obtain ⟨vL, vD, vC, ds, cs, h⟩ := h
  have hJ := OldJ.start c w colP
  replace h := h.inn
  generalize mask c colP = c0 at hJ h
  have hb0 := h.hbp
  have hz := hB.wf.sec; have z3 := hB.wf.chg; have z4 := hB.wf.left
  refine enter (n := 62) (res := #[.tmp 4]) Try.func35 rfl rfl rfl rfl ?_
  refine cseq <| cg <| za rfl <| cnil <| cseq <| cg <| zm rfl <| zm rfl ?_
  refine ve (Eff.pureC c0 1 (Eff.call pf51 rfl (pasked_ok h.shut hB))) ?_
  rintro v9 w1 ⟨c1, hM1, hx1, rfl⟩
  replace hJ := hJ.mv hM1; replace hb0 := hb0.mv hM1; replace h := h.mv hM1
  refine za rfl <| cnil <| cseq <| cseq <| cg <| zm rfl <| vq (Val.neq rfl rfl) <| cnil ?_
  refine WC.cond rfl (fun hc2 => ?_) (fun hc2 => ?_)
  ·try simp only [tstS] at hc2
   refine cseq <| cg <| zm rfl <| za rfl <| cnil ?_
   refine WC.ret1 rfl rfl ?_
   have e : flushA B d = (B, askedP B d true) := by
     unfold flushA askedP at *
     cases hi : isA B d with
     | false => simp
     | true =>
       rw [hi] at hc2
       simp only [if_true] at hc2 ⊢
       rw [if_neg hc2]
   rw [e]; exact ⟨_, hJ.out, (h.out hJ).shut, rfl⟩
  ·try simp only [tstS] at hc2
   obtain ⟨hi, _, hm0⟩ := askedP_zero hc2
   obtain ⟨k, rfl, hk⟩ := isA_nat hi
   have hm : mayA B k = 0 := hm0
   have hx := hB.wf.each _ (List.mem_of_getElem? (dskA_at hk))
   obtain ⟨x, hxd⟩ : ∃ x, x = dskA B k := ⟨_, rfl⟩
   rw [← hxd] at hx
   have z1 := hx.ll; have z2 := hx.lc
   refine cskip <| cseq <| cseq <| cg <| za rfl <| cnil <| cblock ?_
   refine WC.loop (σ := Nat) (fun i => [(0, .pointer (some ⟨p, 0, none⟩)), (1, I k), (6, I i)]) (fun i w' => i ≤ B.sectors ∧ ∃ c', OldJ c w colP c' w' ∧ PgX c' w' p B.d.length (setD B k (flTo i x)) vL vD vC ds cs) (fun i => B.sectors - i) 0 subs ⟨by omega, _, hJ, by rw [flTo_zero, hxd, setD_self hk]; exact h⟩ ?_
   clear hJ h hb0
   rintro i wl ⟨hi9, cl, hJ, h⟩
   have hkk : k < (setD B k (flTo i x)).d.length := by rw [setD_len]; exact hk
   have hb0 := h.hbp
   have hdx := dskA_set (x := flTo i x) hk
   refine cseq <| cseq <| cg <| zm rfl <| zm rfl <| vq (Val.nilCheck rfl) <| vq (Val.fieldAddr fld52_1 rfl) <| vq (Val.loadB scl3 rfl hb0.blk rfl) <| vq (Val.lss rfl rfl) ?_
   refine cnil ?_
   refine WC.cond rfl (fun hc5 => ?_) (fun hc5 => ?_)
   ·try simp only [tstS] at hc5
    have hi2 : i < B.sectors := Int.ofNat_lt.1 hc5
    obtain ⟨hl1, hl2⟩ := h.len
    rw [setD_len] at hl1 hl2
    obtain ⟨yd, yc, hvd, hvc, hod, hoc, hc37, hc26⟩ := h.rows hkk
    rw [hdx] at hod hoc
    have hlc : (flTo i x).cache.length = x.cache.length := mk_len _ _
    have hld : (flTo i x).l.length = x.l.length := mk_len _ _
    have hcc := h.cache; have hdd := h.disk
    have hti : tx (flTo i x).cache i = tx x.cache i := by simp only [flTo]; rw [tx_mk (by omega), if_neg (by omega)]
    have hc29 := hoc.elemT (j := (i : Int).toNat) (by omega)
    rw [show (i : Int).toNat = i from rfl, hti] at hc29
    have hc45 := hc26; have hc53 := hc26; have hc56 := hc29
    refine cskip <| cseq <| cblock <| cseq <| cg <| zm rfl <| vq (Val.nilCheck rfl) <| vq (Val.fieldAddr fld52_4 rfl) <| vq (Val.loadB scl50 rfl hb0.blk rfl) ?_
    refine zm rfl <| vq (Val.indexO sl50 hcc rfl rfl (by omega) (by omega)) <| vq (Val.loadE1 scl59 rfl hc26.cel) <| zm rfl <| vq (Val.indexO sl59 hoc rfl rfl (by omega) (by omega)) <| vq (Val.loadE1 scl9 rfl hc29.cel) <| vq (Val.sne rfl rfl) <| cnil ?_
    refine WC.cond rfl (fun hc7 => ?_) (fun hc7 => ?_)
    ·try simp only [tstS] at hc7
     have hne : tx x.cache i ≠ [] := by simpa using hc7
     refine WC.regionD (Kp cl wl [84]) [0, 0, 0, 1, 0, 0, 1, 0, 0, 0, 0, 1, 0, 0, 1, 0, 0, 0, 0, 1, 0, 0, 1, 0, 0, 1, 0, 2, 0, 3] [0, 1, 2, 3, 4, 5, 6, 7, 8, 9, 10, 11, 12, 13, 14, 15, 16, 17, 18, 19, 20, 21, 22, 23, 24, 25, 26, 27, 28, 29] mixed (by kernel_rfl) ?_
     have hM2 := Mv.drew cl wl []
     have hCw := Mv.drew cl wl [84]
     generalize wl.drew = w2 at hM2 hCw ⊢
     have hb00 := hb0
     have hc370 := hc37
     have hc260 := hc26
     have hc450 := hc45
     have hc530 := hc53
     have hc290 := hc29
     have hc560 := hc56
     replace hJ := hJ.mv hM2; replace h := h.mv hM2; replace hb0 := hb0.mv hM2; replace hc37 := hc37.mv hM2; replace hc26 := hc26.mv hM2; replace hc45 := hc45.mv hM2; replace hc53 := hc53.mv hM2; replace hc29 := hc29.mv hM2; replace hc56 := hc56.mv hM2
     refine zdm rfl rfl <| vd rfl (fun _ => Val.nilCheck rfl) <| vd rfl (fun _ => Val.fieldAddr fld52_3 rfl) <| vc rfl hCw.kp (fun W hW => Val.loadB scl50 rfl (hb00.kp hW rfl).blk rfl) <| zdm rfl rfl <| vd rfl (fun _ => Val.indexO sl50 hdd rfl rfl (by omega) (by omega)) <| vc rfl hCw.kp (fun W hW => Val.loadE1 scl59 rfl (hc370.kp hW rfl).cel) <| zdm rfl rfl <| zdm rfl rfl ?_
     refine vd rfl (fun _ => Val.nilCheck rfl) <| vd rfl (fun _ => Val.fieldAddr fld52_4 rfl) <| vc rfl hCw.kp (fun W hW => Val.loadB scl50 rfl (hb00.kp hW rfl).blk rfl) <| zdm rfl rfl <| vd rfl (fun _ => Val.indexO sl50 hcc rfl rfl (by omega) (by omega)) <| vc rfl hCw.kp (fun W hW => Val.loadE1 scl59 rfl (hc450.kp hW rfl).cel) <| zdm rfl rfl <| zdm rfl rfl <| vd rfl (fun _ => Val.nilCheck rfl) ?_
     refine vd rfl (fun _ => Val.fieldAddr fld52_4 rfl) <| vc rfl hCw.kp (fun W hW => Val.loadB scl50 rfl (hb00.kp hW rfl).blk rfl) <| zdm rfl rfl <| vd rfl (fun _ => Val.indexO sl50 hcc rfl rfl (by omega) (by omega)) <| vc rfl hCw.kp (fun W hW => Val.loadE1 scl59 rfl (hc530.kp hW rfl).cel) <| zdm rfl rfl <| vd rfl (fun _ => Val.indexO sl59 hoc rfl rfl (by omega) (by omega)) <| vc rfl hCw.kp (fun W hW => Val.loadE1 scl9 rfl (hc560.kp hW rfl).cel) <| vd rfl (fun _ => Val.indexO sl59 hod rfl rfl (by omega) (by omega)) ?_
     refine WD.eff_ rfl rfl rfl ((Eff.pdStore (x := .tmp 58) (y := .tmp 57) scl9 h hkk hvd rfl rfl (by rw [hdx, Int.toNat_natCast]; omega))) ?_
     rintro _ w3 ⟨c3, hM3, h⟩
     refine ⟨fun hC => hC.step hCw hM3 rfl, ?_⟩
     replace hCw := hCw.tr hM3 rfl
     replace hJ := hJ.mv hM3; replace hb0 := hb0.mv hM3; replace hc37 := hc37.mv hM3; replace hc26 := hc26.mv hM3; replace hc45 := hc45.mv hM3; replace hc53 := hc53.mv hM3; replace hc29 := hc29.mv hM3; replace hc56 := hc56.mv hM3
     rw [hdx, setD_set, Int.toNat_natCast] at h
     have hdx2 := dskA_set (x := { flTo i x with l := (flTo i x).l.set i (tx x.cache i) }) hk
     have hkk2 : k < (setD B k { flTo i x with l := (flTo i x).l.set i (tx x.cache i) }).d.length := by rw [setD_len]; exact hk
     refine vd rfl (fun _ => Val.indexO sl59 hoc rfl rfl (by omega) (by omega)) ?_
     refine WD.wild rfl rfl rfl ((Eff.pcStore (x := .tmp 59) (y := .const (.string ⟨[].toArray⟩)) scl9 h hkk2 hvc rfl rfl (by rw [hdx2, Int.toNat_natCast]; dsimp only; omega))) ?_
     rintro _ w4 ⟨c4, hM4, h⟩
     try replace hCw := hCw.tr hM4 rfl
     replace hJ := hJ.mv hM4
     rw [hdx2, setD_set, Int.toNat_natCast] at h
     have hgo := flTo_go hne (by omega) (by omega)
     dsimp only at h
     rw [show (flTo i x).live = x.live from rfl, ← hgo] at h
     refine WD.nil ?_
     clear hb00 hc370 hc260 hc450 hc530 hc290 hc560
     clear hCw
     refine cg <| zm rfl <| vq (Val.addI rfl rfl side side) <| za rfl <| cnil ?_
     exact ⟨i + 1, subs, ⟨by omega, _, hJ, h⟩, by omega⟩
    ·try simp only [tstS] at hc7
     have he : tx x.cache i = [] := by simpa using hc7
     have hgo := flTo_skip he
     rw [← hgo] at h
     refine cskip <| cg <| zm rfl <| vq (Val.addI rfl rfl side side) <| za rfl <| cnil ?_
     exact ⟨i + 1, subs, ⟨by omega, _, hJ, h⟩, by omega⟩
   ·try simp only [tstS] at hc5
    have e : i = B.sectors := by have h5 : ¬ ((i : Int) < B.sectors) := hc5; omega
    subst e
    rw [flTo_all hx.ll hx.lc, hxd] at h
    have hP := h.shut
    refine WC.exit rfl ?_
    refine cseq <| cg <| zm rfl ?_
    refine ve (Eff.call pf57 rfl (pchanges_ok hP z3 z4.1 z4.2)) ?_
    rintro v61 w5 ⟨c5, hM5, hP⟩
    replace hJ := hJ.mv hM5
    refine cnil <| cseq <| cg <| za rfl <| cnil ?_
    refine WC.ret1 rfl rfl ?_
    exact ⟨_, hJ.out, by simpa [flushA, hi, hm] using hP.out hJ, by simp [flushA, hi, hm]⟩
end
end Go.Proofs.Ytjddnaefmikccaa
