/- The page's disks: turned, dirty. No condition. -/
import Derived.Test.YtjddnaefmikccaaPg3
set_option linter.unusedSimpArgs false
set_option linter.unusedVariables false
set_option maxRecDepth 100000
namespace Silo
open Go.Eng
/-- The keys below i. -/
def keysLt (C : List Txt) (i : Nat) : List Nat := (List.range i).filter fun k => !(tx C k).isEmpty
theorem keysLt_all (C : List Txt) : keysLt C C.length = keysT C := rfl
theorem keysLt_go {C : List Txt} {i : Nat} (h : tx C i ≠ []) : keysLt C (i + 1) = keysLt C i ++ [i] := by
  have h2 : (tx C i).isEmpty = false := by simpa using h
  simp [keysLt, List.range_succ, List.filter_append, h2]
theorem keysLt_skip {C : List Txt} {i : Nat} (h : tx C i = []) : keysLt C (i + 1) = keysLt C i := by
  simp [keysLt, List.range_succ, List.filter_append, h]
theorem keysLt_len (C : List Txt) (i : Nat) : (keysLt C i).length ≤ i := by
  have := List.length_filter_le (fun k => !(tx C k).isEmpty) (List.range i)
  simpa [keysLt] using this
def dirtyPs (D : List Dsk) : Nat := (D.map fun x => if x.live then (keysT x.cache).length else 0).sum
def dirtyP (B : Arr) : Nat := dirtyPs B.d
theorem dirtyPs_snoc (D : List Dsk) (x : Dsk) : dirtyPs (D ++ [x]) = dirtyPs D + if x.live then (keysT x.cache).length else 0 := by
  simp only [dirtyPs, List.map_append, List.sum_append, List.map_cons, List.map_nil, List.sum_cons, List.sum_nil, Nat.add_zero]
theorem dirtyPs_le {n : Nat} : ∀ (D : List Dsk), (∀ x ∈ D, x.cache.length ≤ n) → dirtyPs D ≤ D.length * n
  | [], _ => by simp [dirtyPs]
  | x :: D, h => by
    have h1 := dirtyPs_le D fun y hy => h y (by simp [hy])
    have h2 := h x (by simp)
    have h3 := keysT_len x.cache
    have e : dirtyPs (x :: D) = (if x.live then (keysT x.cache).length else 0) + dirtyPs D := by simp [dirtyPs]
    rw [e, List.length_cons, Nat.add_mul, Nat.one_mul]
    split <;> omega
end Silo
namespace Go.Proofs.Ytjddnaefmikccaa
open Go Go.Eng Go.RowKit Silo TryT
section
variable {c : Nat → Nat} {w : World} {p : Nat} {B : Arr} {d : Int}
set_option maxHeartbeats 1000000 in
theorem pflip_ok (h : PgC c w p B) (hB : WfB B) {n : Int} (hn : n ≤ 9223372036854775807) : Calls Try.prog 44 #[.pointer (some ⟨p, 0, none⟩), I d, I n] w (Ret fun u w' => ∃ c', Mv c w c' w' colP ∧ PgC c' w' p (flipA B d n).1 ∧ u = I (flipA B d n).2) := by
  obtain ⟨vL, vD, vC, ds, cs, h⟩ := h
  have hJ := OldJ.start c w colP
  replace h := h.inn
  generalize mask c colP = c0 at hJ h
  have hb0 := h.hbp
  have hz := hB.wf.many
  have z1 := hB.wf.sec
  refine enter (n := 73) (res := #[.tmp 6]) Try.func44 rfl rfl rfl rfl ?_
  refine cseq <| cg <| za rfl <| cnil <| cseq <| cseq <| cg <| zm rfl <| zm rfl ?_
  refine vq (Val.nilCheck rfl) <| vq (Val.fieldAddr fld52_0 rfl) <| vq (Val.loadB scl3 rfl hb0.blk rfl) <| vq (Val.subI rfl rfl side side) ?_
  refine ve (Eff.pureC c0 1 (Eff.call pf50 rfl (num_ok _ _))) ?_
  rintro v16 w1 ⟨c1, hM1, hx1, rfl⟩
  replace hJ := hJ.mv hM1; replace hb0 := hb0.mv hM1; replace h := h.mv hM1
  rw [numD]
  refine vq (Val.not rfl) <| cnil ?_
  refine WC.cond rfl (fun hc1 => ?_) (fun hc1 => ?_)
  ·try simp only [tstS] at hc1
   refine cseq <| cg <| za rfl <| cnil ?_
   refine WC.ret1 rfl rfl ?_
   exact ⟨_, hJ.out, by simpa [flipA, hc1] using (h.out hJ).shut, by simp [flipA, hc1]⟩
  ·try simp only [tstS] at hc1
   obtain ⟨k, rfl, hk⟩ := isA_nat hc1
   have hx := hB.wf.each _ (List.mem_of_getElem? (dskA_at hk))
   have hLv := h.live
   have hll : (B.d.map fun x => Value.bool x.live).length = B.d.length := List.length_map ..
   obtain ⟨hl1, hl2⟩ := h.len
   obtain ⟨yd, yc, hyd, hyc, hrw, _, hc42, _⟩ := h.rows hk
   have hc25 := h.celL hk
   have hdd := h.disk
   refine cskip <| cseq <| cseq <| cg <| zm rfl <| vq (Val.lss rfl rfl) <| cnil ?_
   refine WC.cond rfl (fun hc3 => ?_) (fun hc3 => ?_)
   ·try simp only [tstS] at hc3
    refine cseq <| cg <| za rfl <| cnil ?_
    refine WC.ret1 rfl rfl ?_
    exact ⟨_, hJ.out, by simpa [flipA, hc1, show ¬ 0 ≤ n by omega] using (h.out hJ).shut, by simp [flipA, hc1, show ¬ 0 ≤ n by omega]⟩
   ·try simp only [tstS] at hc3
    refine cskip <| cseq <| cseq <| cg <| zm rfl <| vq (Val.nilCheck rfl) <| vq (Val.fieldAddr fld52_2 rfl) <| vq (Val.loadB scl49 rfl hb0.blk rfl) <| zm rfl ?_
    refine vq (Val.indexO sl49 hLv rfl rfl (by omega) (by omega)) <| vq (Val.loadE1 scl4 rfl hc25.cel) <| vq (Val.not rfl) <| cnil ?_
    refine WC.cond rfl (fun hc5 => ?_) (fun hc5 => ?_)
    ·try simp only [tstS] at hc5
     refine cseq <| cg <| za rfl <| cnil ?_
     refine WC.ret1 rfl rfl ?_
     exact ⟨_, hJ.out, by simpa [flipA, hc1, hc5, show 0 ≤ n by omega] using (h.out hJ).shut, by simp [flipA, hc1, hc5, show 0 ≤ n by omega]⟩
    ·try simp only [tstS] at hc5
     refine cskip <| cseq ?_
     have hc67 := hc42
     obtain ⟨q, hq⟩ : ∃ q : Nat, q = (n % (512 * B.sectors)).toNat := ⟨_, rfl⟩
     have hq1 : n % (512 * (B.sectors : Int)) = (q : Int) := by rw [hq]; exact (Int.toNat_of_nonneg (Int.emod_nonneg _ (by omega))).symm
     have hq2 : q < 512 * B.sectors := by have := Int.emod_lt_of_pos n (show (0 : Int) < 512 * B.sectors by omega); omega
     have hqs : q / 512 < B.sectors := by omega
     have z3 := hx.ll
     have hc45 := hrw.elemT (j := ((q / 512 : Nat) : Int).toNat) (by omega)
     obtain ⟨t, ht⟩ : ∃ t, t = tx (dskA B k).l (q / 512) := ⟨_, rfl⟩
     have htl : t.length = 64 := by rw [ht]; exact hx.tl _ hqs
     have e45 : tx (dskA B k).l ((q / 512 : Nat) : Int).toNat = t := ht.symm
     rw [e45] at hc45
     have hac : q / 8 % 64 < t.length := by omega
     refine cg <| zm rfl <| zm rfl <| vq (Val.nilCheck rfl) <| vq (Val.fieldAddr fld52_1 rfl) <| vq (Val.loadB scl3 rfl hb0.blk rfl) <| vq (Val.mulI rfl rfl side side) <| vq (Val.remI rfl rfl (by omega) (by omega)) ?_
     rw [hq1]
     refine za rfl <| cnil <| cseq <| cg <| zm rfl <| vq (Val.quoI rfl rfl (by omega) (by omega) (by omega)) ?_
     rw [show ((q : Int) / 512) = ((q / 512 : Nat) : Int) by omega]
     refine za rfl <| cnil <| cseq <| cg <| zm rfl <| vq (Val.nilCheck rfl) <| vq (Val.fieldAddr fld52_3 rfl) <| vq (Val.loadB scl50 rfl hb0.blk rfl) <| zm rfl ?_
     refine vq (Val.indexO sl50 hdd rfl rfl (by omega) (by omega)) <| vq (Val.loadE1 scl59 rfl hc42.cel) <| zm rfl <| vq (Val.indexO sl59 hrw rfl rfl (by omega) (by omega)) <| vq (Val.loadE1 scl9 rfl hc45.cel) ?_
     refine ve (Eff.toBytesC c1 147 Try.underlying9 Try.underlying64 Try.underlying5 rfl mxl) ?_
     rintro v47 w2 ⟨c2, hM2, ho47⟩
     replace hJ := hJ.mv hM2; replace hb0 := hb0.mv hM2; replace h := h.mv hM2; replace hc42 := hc42.mv hM2; replace hc67 := hc67.mv hM2; replace hc45 := hc45.mv hM2
     refine za rfl <| cnil <| cseq <| cg <| zm rfl <| vq (Val.quoI rfl rfl (by omega) (by omega) (by omega)) <| vq (Val.remI rfl rfl (by omega) (by omega)) ?_
     rw [show ((q : Int) / 8 % 64) = ((q / 8 % 64 : Nat) : Int) by omega]
     refine za rfl <| cnil <| cseq ?_
     rw [htl] at ho47
     have hB := ho47.rdBA (by omega)
     obtain ⟨hc55, _⟩ := RdC.elFlat (n := 1) (enc := fun b : UInt8 => [Value.int .u8 b.toNat]) (ok := fun _ => True) hB hac (by decide)
     refine WC.regionD (Kp c2 w2 []) [0, 0, 0, 0, 0, 1, 0, 0, 0, 0, 0, 3] [0, 1, 2, 3, 4, 5, 6, 7, 8, 9, 10, 11] mixed (by kernel_rfl) ?_
     have hM3 := Mv.drew c2 w2 []
     have hCw := Mv.drew c2 w2 []
     generalize w2.drew = w3 at hM3 hCw ⊢
     have hb00 := hb0
     have hc670 := hc67
     have hc550 := hc55
     replace hJ := hJ.mv hM3; replace hb0 := hb0.mv hM3; replace h := h.mv hM3; replace hc67 := hc67.mv hM3; replace ho47 := ho47.mv hM3; replace hc55 := hc55.mv hM3
     refine zdm rfl rfl <| zdm rfl rfl <| zdm rfl rfl <| zdm rfl rfl <| vd rfl (fun _ => Val.indexO sl64 ho47 rfl rfl (by omega) (by omega)) ?_
     rw [Int.toNat_natCast]
     refine vc rfl hCw.kp (fun W hW => Val.loadE1 scl5 rfl (hc550.kp hW rfl).cel) <| zdm rfl rfl <| vd rfl (fun _ => Val.remI rfl rfl (by omega) (by omega)) ?_
     rw [show ((q : Int) % 8) = ((q % 8 : Nat) : Int) by omega]
     refine vd rfl (fun _ => Val.shl rfl rfl (by omega) (by simp [IntKind.bits]; omega)) ?_
     rw [Int.toNat_natCast]
     refine vd rfl (fun _ => Val.xorU8 rfl rfl) <| vd rfl (fun _ => Val.indexO sl64 ho47 rfl rfl (by omega) (by omega)) ?_
     rw [Int.toNat_natCast]
     refine WD.wild rfl rfl rfl (Eff.storeOC scl5 ho47 side rfl rfl ra ra) ?_
     rintro _ w4 ⟨hS, hM4⟩
     replace hJ := hJ.mv hM4; replace hb0 := hb0.mv hM4; replace h := h.mv hM4; replace hc67 := hc67.mv hM4
     replace ho47 := hS
     rw [bytesV_set] at ho47
     refine WD.nil ?_
     clear hb00 hc670 hc550
     clear hCw
     refine cseq ?_
     have hft : t.set (q / 8 % 64) (u8I (((BitVec.ofInt 8 (t[q / 8 % 64].toNat : Int)) ^^^ (BitVec.ofInt 8 (IntKind.u8.wrap (1 * 2 ^ (q % 8))))).toNat : Int)) = flipT t q := by rw [flipT, xorB, getD_get hac]
     rw [hft] at ho47
     refine WC.regionD (Kp c2 w4 []) [0, 0, 0, 1, 0, 0, 1, 0, 0, 1, 0, 3] [0, 1, 2, 3, 4, 5, 6, 7, 8, 9, 10, 11] mixed (by kernel_rfl) ?_
     have hM5 := Mv.drew c2 w4 []
     have hCw := Mv.drew c2 w4 []
     generalize w4.drew = w5 at hM5 hCw ⊢
     have hb00 := hb0
     have ho470 := ho47
     have hc670 := hc67
     replace hJ := hJ.mv hM5; replace hb0 := hb0.mv hM5; replace h := h.mv hM5; replace hc67 := hc67.mv hM5; replace ho47 := ho47.mv hM5
     refine zdm rfl rfl <| vd rfl (fun _ => Val.nilCheck rfl) <| vd rfl (fun _ => Val.fieldAddr fld52_3 rfl) <| vc rfl hCw.kp (fun W hW => Val.loadB scl50 rfl (hb00.kp hW rfl).blk rfl) <| zdm rfl rfl <| vd rfl (fun _ => Val.indexO sl50 hdd rfl rfl (by omega) (by omega)) <| vc rfl hCw.kp (fun W hW => Val.loadE1 scl59 rfl (hc670.kp hW rfl).cel) <| zdm rfl rfl <| zdm rfl rfl ?_
     refine vc rfl hCw.kp (fun W hW => Val.ofBytes Try.underlying64 Try.underlying9 Try.underlying5 rfl (ho470.kp hW rfl).own) <| vd rfl (fun _ => Val.indexO sl59 hrw rfl rfl (by omega) (by omega)) ?_
     refine WD.wild rfl rfl rfl ((Eff.pdStore (x := .tmp 72) (y := .tmp 71) scl9 h hk hyd rfl rfl (by omega))) ?_
     rintro _ w6 ⟨c6, hM6, h⟩
     replace hJ := hJ.mv hM6; replace ho47 := ho47.mv hM6
     refine WD.nil ?_
     clear hb00 ho470 hc670
     clear hCw
     refine cseq <| cg <| za rfl <| cnil ?_
     refine WC.ret1 rfl rfl ?_
     have e9 : flipA B k n = (setD B k { dskA B k with l := (dskA B k).l.set (q / 512) (flipT t q) }, 0) := by
       rw [flipA, if_pos hc1, if_pos (by omega), show ((k : Int)).toNat = k from rfl, if_pos hc5]
       dsimp only
       rw [← hq, ht]
     rw [e9]
     exact ⟨_, hJ.out, (h.out hJ).shut, rfl⟩
set_option maxHeartbeats 1000000 in
theorem pdirty_ok (h : PgC c w p B) (hB : WfB B) : Calls Try.prog 49 #[.pointer (some ⟨p, 0, none⟩)] w (Ret fun u w' => Below w.heap.size w w' ∧ u = I (dirtyP B)) := by
  obtain ⟨vL, vD, vC, ds, cs, h⟩ := h
  have hR := OldR.start c w colP
  replace h := h.inn
  generalize mask c colP = c0 at hR h
  have hz := hB.wf.many; have z1 := hB.wf.sec
  have hdl : ∀ k, dirtyPs (B.d.take k) ≤ 24576 := fun k => by
    have h1 := dirtyPs_le (n := B.sectors) (B.d.take k) fun x hx => Nat.le_of_eq (hB.wf.each x (List.mem_of_mem_take hx)).lc
    have h2 : (B.d.take k).length ≤ 12 := by rw [List.length_take]; omega
    have h3 : (B.d.take k).length * B.sectors ≤ 12 * 2048 := Nat.mul_le_mul h2 z1.2
    omega
  refine enter (n := 45) (res := #[.tmp 2]) Try.func49 rfl rfl rfl rfl ?_
  refine cseq <| cg <| za rfl <| cnil <| cseq <| cg <| za rfl <| cnil <| cseq ?_
  refine cseq <| cg <| za rfl <| cnil <| cblock ?_
  refine WC.loop (σ := Nat) (fun k => [(0, .pointer (some ⟨p, 0, none⟩)), (3, I (dirtyPs (B.d.take k))), (4, I k)]) (fun k w' => k ≤ B.d.length ∧ ∃ c', OldR c w colP c' w' ∧ PgX c' w' p B.d.length B vL vD vC ds cs) (fun k => B.d.length - k) 0 subs ⟨by omega, _, hR, h⟩ ?_
  clear hR h
  rintro k wl ⟨hk, cl, hR, h⟩
  have hb0 := h.hbp
  refine cseq <| cseq <| cg <| zm rfl <| zm rfl <| vq (Val.nilCheck rfl) <| vq (Val.fieldAddr fld52_0 rfl) <| vq (Val.loadB scl3 rfl hb0.blk rfl) <| vq (Val.lss rfl rfl) ?_
  refine cnil ?_
  refine WC.cond rfl (fun hc3 => ?_) (fun hc3 => ?_)
  ·try simp only [tstS] at hc3
   have hk' : k < B.d.length := by omega
   have hx := hB.wf.each _ (List.mem_of_getElem? (dskA_at hk'))
   obtain ⟨x, hxd⟩ : ∃ x, x = dskA B k := ⟨_, rfl⟩
   have z2 := hx.lc
   rw [← hxd] at z2
   obtain ⟨n, hn⟩ : ∃ n, n = dirtyPs (B.d.take k) := ⟨_, rfl⟩
   have hn1 := hdl k
   rw [← hn] at hn1 ⊢
   obtain ⟨cI, hcI⟩ : ∃ cI : Nat → Nat, cI = fun i => if x.live then (keysLt x.cache i).length else 0 := ⟨_, rfl⟩
   have hcl : ∀ i, cI i ≤ i := fun i => by rw [hcI]; dsimp only; split; exact keysLt_len _ _; omega
   have hcI0 : cI 0 = 0 := by rw [hcI]; simp [keysLt]
   refine cskip <| cseq <| cblock <| cseq <| cg <| za rfl <| cnil <| cblock ?_
   refine WC.loop (σ := Nat) (fun i => [(0, .pointer (some ⟨p, 0, none⟩)), (3, I (n + cI i : Nat)), (4, I k), (5, I i)]) (fun i w' => i ≤ B.sectors ∧ ∃ c', OldR c w colP c' w' ∧ PgX c' w' p B.d.length B vL vD vC ds cs) (fun i => B.sectors - i) 0 (by rw [hcI0]; exact subs) ⟨by omega, _, hR, h⟩ ?_
   clear hR h hb0
   rintro i wm ⟨hi, cm, hR, h⟩
   have hb0 := h.hbp
   have hc1 := hcl i
   refine cseq <| cseq <| cg <| zm rfl <| zm rfl <| vq (Val.nilCheck rfl) <| vq (Val.fieldAddr fld52_1 rfl) <| vq (Val.loadB scl3 rfl hb0.blk rfl) <| vq (Val.lss rfl rfl) ?_
   refine cnil ?_
   refine WC.cond rfl (fun hc6 => ?_) (fun hc6 => ?_)
   ·try simp only [tstS] at hc6
    have hi' : i < B.sectors := by omega
    obtain ⟨hl1, hl2⟩ := h.len
    obtain ⟨yd, yc, hyd, hyc, _, hoc, _, hc35⟩ := h.rows hk'
    rw [← hxd] at hoc
    have hc27 := h.celL hk'
    rw [← hxd] at hc27
    have hLv := h.live; have hcc := h.cache
    have hll : (B.d.map fun x => Value.bool x.live).length = B.d.length := List.length_map ..
    have hc38 := hoc.elemT (j := (i : Int).toNat) (by omega)
    rw [show (i : Int).toNat = i from rfl] at hc38
    refine cskip <| cseq <| cblock <| cseq <| cg <| zm rfl <| vq (Val.nilCheck rfl) <| vq (Val.fieldAddr fld52_2 rfl) <| vq (Val.loadB scl49 rfl hb0.blk rfl) ?_
    refine zm rfl <| vq (Val.indexO sl49 hLv rfl rfl (by omega) (by omega)) <| vq (Val.loadE1 scl4 rfl hc27.cel) <| zm rfl ?_
    apply WR.sc true 11 _ (fun w' => wm = w')
    case hl | hg | hu | hv | hs | hoff | hd => rfl
    case hF => exact fun _ => rfl
    case hT =>
     intro hq19
     try simp only [tstS] at hq19
     simp only [List.take_succ_cons, List.take_zero]
     refine WR.on rfl rfl ?_
     refine zm rfl ?_
     refine WR.on rfl rfl ?_
     refine vq (Val.nilCheck rfl) ?_
     refine WR.on rfl rfl ?_
     refine vq (Val.fieldAddr fld52_4 rfl) ?_
     refine WR.on rfl rfl ?_
     refine vq (Val.loadB scl50 rfl hb0.blk rfl) ?_
     refine WR.on rfl rfl ?_
     refine zm rfl ?_
     refine WR.on rfl rfl ?_
     refine vq (Val.indexO sl50 hcc rfl rfl (by omega) (by omega)) ?_
     refine WR.on rfl rfl ?_
     refine vq (Val.loadE1 scl59 rfl hc35.cel) ?_
     refine WR.on rfl rfl ?_
     refine zm rfl ?_
     refine WR.on rfl rfl ?_
     refine vq (Val.indexO sl59 hoc rfl rfl (by omega) (by omega)) ?_
     refine WR.on rfl rfl ?_
     refine vq (Val.loadE1 scl9 rfl hc38.cel) ?_
     refine WR.on rfl rfl ?_
     refine vq (Val.sne rfl rfl) ?_
     exact WR.nil ⟨rfl, Sub.drop _ 11 _ rfl rfl, rfl⟩
    rintro _ rfl
    refine cnil ?_
    refine WC.cond rfl (fun hc8 => ?_) (fun hc8 => ?_)
    ·try simp only [tstS] at hc8
     have e : cI (i + 1) = cI i + 1 := by
       have hne : tx x.cache i ≠ [] := by simpa using hc8.2
       rw [hcI]; dsimp only; rw [if_pos hc8.1, if_pos hc8.1, keysLt_go hne, List.length_append]; rfl
     have hc9 := hcl (i + 1)
     refine cg <| zm rfl <| vq (Val.addI rfl rfl side side) <| za rfl <| cnil <| cg <| zm rfl <| vq (Val.addI rfl rfl side side) <| za rfl ?_
     refine cnil ?_
     refine ⟨i + 1, by rw [e]; exact subs, ⟨by omega, _, hR, h⟩, by omega⟩
    ·try simp only [tstS] at hc8
     have e : cI (i + 1) = cI i := by
       rw [hcI]; dsimp only
       by_cases hv : x.live = true
       · have he : tx x.cache i = [] := by simpa [hv] using hc8
         rw [if_pos hv, if_pos hv, keysLt_skip he]
       · rw [if_neg hv, if_neg hv]
     refine cskip <| cg <| zm rfl <| vq (Val.addI rfl rfl side side) <| za rfl <| cnil ?_
     refine ⟨i + 1, by rw [e]; exact subs, ⟨by omega, _, hR, h⟩, by omega⟩
   ·try simp only [tstS] at hc6
    have e : i = B.sectors := by omega
    have e2 : n + cI i = dirtyPs (B.d.take (k + 1)) := by
      rw [List.take_succ_eq_append_getElem hk', dirtyPs_snoc, ← hn, hcI, show B.d[k] = x by rw [hxd]; simp [dskA, hk'], e]
      dsimp only
      rw [← z2, keysLt_all]
    rw [e2]
    refine WC.exit rfl ?_
    refine cg <| zm rfl <| vq (Val.addI rfl rfl side side) <| za rfl <| cnil ?_
    exact ⟨k + 1, subs, ⟨by omega, _, hR, h⟩, by omega⟩
  ·try simp only [tstS] at hc3
   have e : k = B.d.length := by omega
   refine WC.exit rfl ?_
   refine cseq <| cg <| zm rfl <| za rfl <| cnil ?_
   refine WC.ret1 rfl rfl ?_
   exact ⟨hR.below, by rw [e, List.take_of_length_le (Nat.le_refl _)]; rfl⟩
end
end Go.Proofs.Ytjddnaefmikccaa
