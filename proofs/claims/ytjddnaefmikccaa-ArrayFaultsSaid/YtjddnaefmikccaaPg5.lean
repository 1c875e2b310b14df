/- The page's disks: the power comes again. No condition. -/
import Derived.Test.YtjddnaefmikccaaPg4
set_option linter.unusedSimpArgs false
set_option linter.unusedVariables false
set_option maxRecDepth 100000
namespace Silo
open Go.Eng
theorem keepS_snoc (L : List Int) (C : List Txt) (k : Nat) : ∀ (ks : List Nat) (a : Nat) (l : List Txt), keepS L C l a (ks ++ [k]) = if pick L (a + ks.length) then (keepS L C l a ks).set k (tx C k) else keepS L C l a ks
  | [], a, l => by simp [keepS]
  | j :: ks, a, l => by
    rw [List.cons_append, keepS, keepS, keepS_snoc L C k ks, List.length_cons]
    rw [show a + 1 + ks.length = a + (ks.length + 1) by omega]
theorem keepS_len (L : List Int) (C : List Txt) : ∀ (ks : List Nat) (a : Nat) (l : List Txt), (keepS L C l a ks).length = l.length
  | [], _, _ => rfl
  | j :: ks, a, l => by rw [keepS, keepS_len L C ks]; split <;> simp
/-- A disk of which the first i sectors are through. -/
def crTo (L : List Int) (a i : Nat) (x : Dsk) : Dsk := if x.live then ⟨x.live, keepS L x.cache x.l a (keysLt x.cache i), mk x.cache.length fun j => if j < i then [] else tx x.cache j⟩ else x
def cnTo (i : Nat) (x : Dsk) : Nat := if x.live then (keysLt x.cache i).length else 0
def crashPs (L : List Int) : Nat → List Dsk → List Dsk
  | _, [] => []
  | a, x :: xs => crTo L a x.cache.length x :: crashPs L (a + cnTo x.cache.length x) xs
theorem cnTo_all (x : Dsk) : cnTo x.cache.length x = if x.live then (keysT x.cache).length else 0 := rfl
def crashP (B : Arr) (L : List Int) : Arr := { B with d := crashPs L 0 B.d, off := false, left := -1 }
theorem crashPs_snoc (L : List Int) (x : Dsk) : ∀ (xs : List Dsk) (a : Nat), crashPs L a (xs ++ [x]) = crashPs L a xs ++ [crTo L (a + dirtyPs xs) x.cache.length x]
  | [], a => by simp [crashPs, dirtyPs]
  | y :: ys, a => by
    have e : a + cnTo y.cache.length y + dirtyPs ys = a + dirtyPs (y :: ys) := by
      rw [cnTo_all]; simp [dirtyPs]; omega
    rw [List.cons_append, crashPs, crashPs, crashPs_snoc L x ys, e]; rfl
theorem crashPs_len (L : List Int) : ∀ (xs : List Dsk) (a : Nat), (crashPs L a xs).length = xs.length
  | [], _ => rfl
  | _ :: ys, a => by rw [crashPs, List.length_cons, crashPs_len L ys, List.length_cons]
theorem crTo_zero (L : List Int) (a : Nat) (x : Dsk) : crTo L a 0 x = x := by
  obtain ⟨v, l, C⟩ := x
  unfold crTo
  cases v with
  | false => rfl
  | true =>
    simp only [if_true, Nat.not_lt_zero, if_false]
    rw [show keysLt C 0 = [] from rfl, keepS, show (fun j => tx C j) = tx C from rfl, mk_tx]
theorem crTo_skip {L : List Int} {a i : Nat} {x : Dsk} (h : x.live = false ∨ tx x.cache i = []) : crTo L a (i + 1) x = crTo L a i x ∧ cnTo (i + 1) x = cnTo i x := by
  unfold crTo cnTo
  by_cases hv : x.live = true
  · have h2 : tx x.cache i = [] := by
      rcases h with h | h
      · rw [hv] at h; cases h
      · exact h
    simp only [if_pos hv]
    rw [keysLt_skip h2]
    refine ⟨?_, rfl⟩
    congr 1
    refine mk_congr fun k _ => ?_
    by_cases hk : k = i
    · subst hk; simp [h2]
    · simp only [show (k < i + 1) = (k < i) from propext ⟨fun _ => by omega, fun _ => by omega⟩]
  · simp only [if_neg hv]; exact ⟨trivial, trivial⟩
theorem crTo_go {L : List Int} {a i : Nat} {x : Dsk} (hv : x.live = true) (h : tx x.cache i ≠ []) (hi : i < x.cache.length) :
    crTo L a (i + 1) x = ⟨x.live, if pick L (a + cnTo i x) then (crTo L a i x).l.set i (tx x.cache i) else (crTo L a i x).l, (crTo L a i x).cache.set i []⟩ ∧ cnTo (i + 1) x = cnTo i x + 1 := by
  unfold crTo cnTo
  simp only [if_pos hv]
  rw [keysLt_go h, keepS_snoc, List.length_append, mk_set hi]
  refine ⟨?_, rfl⟩
  congr 1
  refine mk_congr fun k _ => ?_
  by_cases hk : k = i
  · subst hk; simp
  · simp only [show (k < i + 1) = (k < i) from propext ⟨fun _ => by omega, fun _ => by omega⟩, if_neg hk]
theorem crTo_live (L : List Int) (a i : Nat) (x : Dsk) : (crTo L a i x).live = x.live := by unfold crTo; split <;> rfl
theorem crTo_len (L : List Int) (a i : Nat) (x : Dsk) : (crTo L a i x).l.length = x.l.length ∧ (crTo L a i x).cache.length = x.cache.length := by
  unfold crTo
  split
  · exact ⟨keepS_len _ _ _ _ _, mk_len _ _⟩
  · exact ⟨rfl, rfl⟩
theorem crTo_tx (L : List Int) (a i : Nat) (x : Dsk) : tx (crTo L a i x).cache i = tx x.cache i := by
  unfold crTo
  split
  · rcases Nat.lt_or_ge i x.cache.length with h | h
    · rw [tx_mk h, if_neg (by omega)]
    · rw [tx_ge (by rw [mk_len]; exact h), tx_ge h]
  · rfl
theorem cnTo_le (i : Nat) (x : Dsk) : cnTo i x ≤ i := by unfold cnTo; split; exact keysLt_len _ _; omega
/-- The disks of which the first k are through. -/
def crB (B : Arr) (L : List Int) (k : Nat) : Arr := { B with d := crashPs L 0 (B.d.take k) ++ B.d.drop k, off := false, left := -1 }
theorem crB_len (B : Arr) (L : List Int) (k : Nat) : (crB B L k).d.length = B.d.length := by simp [crB, crashPs_len]; omega
theorem crB_at {B : Arr} {L : List Int} {k : Nat} (hk : k < B.d.length) : dskA (crB B L k) k = dskA B k := by
  have hl : (crashPs L 0 (B.d.take k)).length = k := by rw [crashPs_len, List.length_take]; omega
  simp only [dskA, crB]
  rw [List.getD_eq_getElem?_getD, List.getElem?_append_right (by omega), hl, Nat.sub_self, List.drop_eq_getElem_cons hk]
  simp [hk]
theorem crB_zero (B : Arr) (L : List Int) : crB B L 0 = { B with off := false, left := -1 } := by simp [crB, crashPs]
theorem crB_succ {B : Arr} {L : List Int} {k : Nat} (hk : k < B.d.length) : setD (crB B L k) k (crTo L (dirtyPs (B.d.take k)) (dskA B k).cache.length (dskA B k)) = crB B L (k + 1) := by
  have hl : (crashPs L 0 (B.d.take k)).length = k := by rw [crashPs_len, List.length_take]; omega
  have hd : dskA B k = B.d[k] := by simp [dskA, hk]
  simp only [setD, crB]
  rw [List.take_succ_eq_append_getElem hk, crashPs_snoc, Nat.zero_add, List.set_append_right _ _ (by omega), hl, Nat.sub_self, List.drop_eq_getElem_cons hk, List.set_cons_zero, hd, List.append_assoc]
  rfl
theorem crB_all {B : Arr} {L : List Int} : crB B L B.d.length = crashP B L := by simp [crB, crashP]
end Silo
namespace Go.Proofs.Ytjddnaefmikccaa
open Go Go.Eng Go.RowKit Silo TryT
section
variable {c : Nat → Nat} {w : World} {p : Nat} {B : Arr}
set_option maxHeartbeats 2000000 in
theorem pcrash_ok (h : PgC c w p B) (hB : WfB B) {vA : Value} {L : List Int} {K : List Nat} (hL : RdC intS c w K vA L) (hK : apartC K colP = true) (hL64 : L.length ≤ 1048576) : Calls Try.prog 24 #[.pointer (some ⟨p, 0, none⟩), vA] w (Ret fun _ w' => ∃ c', Mv c w c' w' colP ∧ PgC c' w' p (crashP B L)) := by
  obtain ⟨vL, vD, vC, ds, cs, h⟩ := h
  have hJ := OldJ.start c w colP
  replace h := h.inn
  replace hL := hL.inn hK
  generalize mask c colP = c0 at hJ h hL
  have hz := hB.wf.many; have z1 := hB.wf.sec
  have hdl : ∀ k, dirtyPs (B.d.take k) ≤ 24576 := fun k => by
    have h1 := dirtyPs_le (n := B.sectors) (B.d.take k) fun x hx => Nat.le_of_eq (hB.wf.each x (List.mem_of_mem_take hx)).lc
    have h2 : (B.d.take k).length ≤ 12 := by rw [List.length_take]; omega
    have h3 : (B.d.take k).length * B.sectors ≤ 12 * 2048 := Nat.mul_le_mul h2 z1.2
    omega
  obtain ⟨⟨q1, q2, q3⟩, q4, q5, q6⟩ := h.one
  obtain ⟨hb0, hLv, hvD, hvC, hRd, hRc⟩ := h
  refine enter (n := 91) (res := #[]) Try.func24 rfl rfl rfl rfl ?_
  refine cseq <| cg <| zm rfl <| vq (Val.nilCheck rfl) <| vq (Val.fieldAddr fld52_5 rfl) ?_
  refine WR.eff_ (Eff.storeC scl3 rfl rfl ra ra hb0 rfl) ?_
  rintro _ w1 ⟨hS, hM1⟩
  replace hJ := hJ.mv hM1; replace hL := hL.mv hM1; replace hLv := hLv.mv hM1; replace hvD := hvD.mv hM1; replace hvC := hvC.mv hM1; replace hRd := hRd.mv hM1; replace hRc := hRc.mv hM1
  replace hb0 := hS
  refine cnil <| cseq <| cg <| za rfl <| cnil <| cseq <| cg <| za rfl <| cnil ?_
  refine cblock ?_
  have h : PgX _ _ p B.d.length { B with off := false, left := -1 } vL vD vC ds cs := ⟨hb0, hLv, hvD, hvC, hRd, hRc⟩
  rw [← crB_zero B L] at h
  refine WC.loop (σ := Nat) (fun k => [(0, .pointer (some ⟨p, 0, none⟩)), (1, vA), (4, I (dirtyPs (B.d.take k))), (5, I k)]) (fun k w' => k ≤ B.d.length ∧ ∃ c', OldJ c w colP c' w' ∧ RdC intS c' w' [0] vA L ∧ PgX c' w' p B.d.length (crB B L k) vL vD vC ds cs) (fun k => B.d.length - k) 0 subs ⟨by omega, _, hJ, hL, h⟩ ?_
  clear hJ hL hb0 hLv hvD hvC hRd hRc h
  rintro k wl ⟨hk, cl, hJ, hL, h⟩
  have hb0 := h.hbp
  refine cseq <| cseq <| cg <| zm rfl <| zm rfl <| vq (Val.nilCheck rfl) <| vq (Val.fieldAddr fld52_0 rfl) <| vq (Val.loadB scl3 rfl hb0.blk rfl) <| vq (Val.lss rfl rfl) ?_
  refine cnil ?_
  refine WC.cond rfl (fun hc3 => ?_) (fun hc3 => ?_)
  ·try simp only [tstS] at hc3
   have hk' : k < B.d.length := by omega
   have hx := hB.wf.each _ (List.mem_of_getElem? (dskA_at hk'))
   have hkc : k < (crB B L k).d.length := by rw [crB_len]; exact hk'
   have hat := crB_at (L := L) hk'
   have hsu := crB_succ (L := L) hk'
   obtain ⟨x, hxd⟩ : ∃ x, x = dskA B k := ⟨_, rfl⟩
   have z2 := hx.lc; have z3 := hx.ll
   rw [← hxd] at z2 z3 hat hsu
   obtain ⟨n, hn⟩ : ∃ n, n = dirtyPs (B.d.take k) := ⟨_, rfl⟩
   have hn1 := hdl k
   rw [← hn] at hn1 hsu ⊢
   have hself : setD (crB B L k) k x = crB B L k := by rw [← hat]; exact setD_self hkc
   refine cskip <| cseq <| cblock <| cseq <| cg <| za rfl <| cnil <| cblock ?_
   refine WC.loop (σ := Nat) (fun i => [(0, .pointer (some ⟨p, 0, none⟩)), (1, vA), (4, I (n + cnTo i x : Nat)), (5, I k), (6, I i)]) (fun i w' => i ≤ B.sectors ∧ ∃ c', OldJ c w colP c' w' ∧ RdC intS c' w' [0] vA L ∧ PgX c' w' p B.d.length (setD (crB B L k) k (crTo L n i x)) vL vD vC ds cs) (fun i => B.sectors - i) 0 (by rw [show cnTo 0 x = 0 by unfold cnTo; split <;> rfl]; exact subs) ⟨by omega, _, hJ, hL, by rw [crTo_zero, hself]; exact h⟩ ?_
   clear hJ hL h hb0
   rintro i wm ⟨hi, cm, hJ, hL, h⟩
   have hb0 := h.hbp
   have hcn := cnTo_le i x
   refine cseq <| cseq <| cg <| zm rfl <| zm rfl <| vq (Val.nilCheck rfl) <| vq (Val.fieldAddr fld52_1 rfl) <| vq (Val.loadB scl3 rfl hb0.blk rfl) <| vq (Val.lss rfl rfl) ?_
   refine cnil ?_
   refine WC.cond rfl (fun hc6 => ?_) (fun hc6 => ?_)
   ·try simp only [tstS] at hc6
    have hi' : i < B.sectors := Int.ofNat_lt.1 hc6
    have hkk : k < (setD (crB B L k) k (crTo L n i x)).d.length := by rw [setD_len]; exact hkc
    have hdx := dskA_set (x := crTo L n i x) hkc
    obtain ⟨hl1, hl2⟩ := h.len
    rw [setD_len, crB_len] at hl1 hl2
    obtain ⟨yd, yc, hyd, hyc, hod, hoc, hc66, hc40⟩ := h.rows hkk
    have hc31 := h.celL hkk
    rw [hdx] at hod hoc hc31
    rw [crTo_live] at hc31
    obtain ⟨z4, z5⟩ := crTo_len L n i x
    have hLv := h.live; have hcc := h.cache; have hdd := h.disk
    have hll : ((setD (crB B L k) k (crTo L n i x)).d.map fun x => Value.bool x.live).length = B.d.length := by rw [List.length_map, setD_len, crB_len]
    have hc43 := hoc.elemT (j := (i : Int).toNat) (by omega)
    rw [show (i : Int).toNat = i from rfl, crTo_tx] at hc43
    have hc74 := hc40; have hc85 := hc40; have hc77 := hc43
    refine cskip <| cseq <| cblock <| cseq <| cseq <| cg <| zm rfl <| vq (Val.nilCheck rfl) <| vq (Val.fieldAddr fld52_2 rfl) ?_
    refine vq (Val.loadB scl49 rfl hb0.blk rfl) <| zm rfl <| vq (Val.indexO sl49 hLv rfl rfl (by omega) (by omega)) <| vq (Val.loadE1 scl4 rfl hc31.cel) <| vq (Val.not rfl) <| zm rfl ?_
    apply WR.sc false 11 _ (fun w' => wm = w')
    case hl | hg | hu | hv | hs | hoff | hd => rfl
    case hF => exact fun _ => rfl
    case hT =>
     intro hq20
     try simp only [tstS] at hq20
     simp only [List.take_succ_cons, List.take_zero]
     refine WR.on rfl rfl ?_
     refine zm rfl ?_
     refine WR.on rfl rfl ?_
     refine vq (Val.nilCheck rfl) ?_
     refine WR.on rfl rfl ?_
     refine vq (Val.fieldAddr fld52_4 rfl) ?_
     refine WR.on rfl rfl ?_
     refine vq (Val.loadB scl50 rfl hb0.blk rfl) ?_
     refine WR.on rfl rfl ?_
     refine zm rfl ?_
     refine WR.on rfl rfl ?_
     refine vq (Val.indexO sl50 hcc rfl rfl (by omega) (by omega)) ?_
     refine WR.on rfl rfl ?_
     refine vq (Val.loadE1 scl59 rfl hc40.cel) ?_
     refine WR.on rfl rfl ?_
     refine zm rfl ?_
     refine WR.on rfl rfl ?_
     refine vq (Val.indexO sl59 hoc rfl rfl (by omega) (by omega)) ?_
     refine WR.on rfl rfl ?_
     refine vq (Val.loadE1 scl9 rfl hc43.cel) ?_
     refine WR.on rfl rfl ?_
     refine vq (Val.seq_ rfl rfl) ?_
     exact WR.nil ⟨rfl, Sub.drop _ 11 _ rfl rfl, rfl⟩
    rintro _ rfl
    refine cnil ?_
    refine WC.cond rfl (fun hc8 => ?_) (fun hc8 => ?_)
    ·try simp only [tstS] at hc8
     have hsk : x.live = false ∨ tx x.cache i = [] := by
       rcases hc8 with h | h
       · exact .inl h
       · exact .inr (by simpa using h)
     obtain ⟨hk1, hk2⟩ := crTo_skip (L := L) (a := n) hsk
     rw [← hk1] at h
     have e9 : ((n + cnTo i x : Nat) : Int) = ((n + cnTo (i + 1) x : Nat) : Int) := by rw [hk2]
     refine WC.exit rfl ?_
     refine cg <| zm rfl <| vq (Val.addI rfl rfl side side) <| za rfl <| cnil ?_
     refine ⟨i + 1, ?_, ⟨by omega, _, hJ, hL, h⟩, by omega⟩
     rw [← e9]; exact subs
    ·try simp only [tstS] at hc8
     have hv : x.live = true := hc8.1
     have hne : tx x.cache i ≠ [] := by simpa using hc8.2
     obtain ⟨hk1, hk2⟩ := crTo_go (L := L) (a := n) hv hne (by omega)
     obtain ⟨t, ht⟩ : ∃ t, t = n + cnTo i x := ⟨_, rfl⟩
     have e9 : ((t : Nat) : Int) + 1 = ((n + cnTo (i + 1) x : Nat) : Int) := by rw [hk2, ht]; omega
     have htn : t ≤ 30000 := by omega
     rw [← ht] at hk1 ⊢
     have hq56 : 0 < L.length → CelC _ _ [0] (elemA vA 1 (t % L.length)) [I (L.getD (t % L.length) 0)] := fun h0 => by
       have hml := Nat.mod_lt t h0
       have h1 := (RdC.elFlat hL hml (by decide)).1
       rw [show L.getD (t % L.length) 0 = L[t % L.length] by simp [List.getD_eq_getElem?_getD, List.getElem?_eq_getElem hml]]
       exact h1
     refine cskip <| cseq <| cseq <| cg <| zm rfl <| vq (Val.rdlen sl32 hL.now rfl) <| vq (Val.gtr rfl rfl) <| zm rfl ?_
     apply WR.sc true 9 (decide (L.getD (t % L.length) 0 % 2 = 1)) (fun w' => wm = w')
     case hl | hg | hu | hv | hs | hoff | hd => rfl
     case hF => exact fun _ => rfl
     case hT =>
      intro hq13
      try simp only [tstS] at hq13
      simp only [List.take_succ_cons, List.take_zero]
      have h0 : 0 < L.length := by omega
      have hml := Nat.mod_lt t h0
      have hc56 := hq56 h0
      refine WR.on rfl rfl ?_
      refine zm rfl ?_
      refine WR.on rfl rfl ?_
      refine zm rfl ?_
      refine WR.on rfl rfl ?_
      refine zm rfl ?_
      refine WR.on rfl rfl ?_
      refine vq (Val.rdlen sl32 hL.now rfl) ?_
      refine WR.on rfl rfl ?_
      refine vq (Val.remI rfl rfl (by omega) (by omega)) ?_
      rw [show ((t : Int) % (L.length : Int)) = ((t % L.length : Nat) : Int) from rfl]
      refine WR.on rfl rfl ?_
      refine vq (Val.indexAddr sl32 hL.now rfl rfl rfl (by omega) (by omega)) ?_
      rw [Int.toNat_natCast]
      refine WR.on rfl rfl ?_
      refine vq (Val.loadE1 scl3 rfl hc56.cel) ?_
      refine WR.on rfl rfl ?_
      refine vq (Val.and1_i64 rfl rfl) ?_
      refine WR.on rfl rfl ?_
      refine vq (Val.eql rfl rfl) ?_
      exact WR.nil ⟨rfl, Sub.drop _ 9 _ rfl rfl, rfl⟩
     rintro _ rfl
     refine cnil ?_
     refine WC.cond rfl (fun hc9 => ?_) (fun hc9 => ?_)
     ·skip
      have hpk : pick L t = true := by rw [← hc9]; simp [pick]
      rw [if_pos hpk] at hk1
      clear hq56
      refine WC.regionD (Kp cm wm []) [0, 0, 0, 1, 0, 0, 1, 0, 0, 0, 0, 1, 0, 0, 1, 0, 0, 1, 0, 3] [0, 1, 2, 3, 4, 5, 6, 7, 8, 9, 10, 11, 12, 13, 14, 15, 16, 17, 18, 19] mixed (by kernel_rfl) ?_
      have hM2 := Mv.drew cm wm []
      have hCw := Mv.drew cm wm []
      generalize wm.drew = w2 at hM2 hCw ⊢
      have hb00 := hb0
      have hc660 := hc66
      have hc400 := hc40
      have hc310 := hc31
      have hc430 := hc43
      have hc740 := hc74
      have hc850 := hc85
      have hc770 := hc77
      replace hJ := hJ.mv hM2; replace hL := hL.mv hM2; replace h := h.mv hM2; replace hb0 := hb0.mv hM2; replace hc66 := hc66.mv hM2; replace hc40 := hc40.mv hM2; replace hc31 := hc31.mv hM2; replace hc43 := hc43.mv hM2; replace hc74 := hc74.mv hM2; replace hc85 := hc85.mv hM2; replace hc77 := hc77.mv hM2
      refine zdm rfl rfl <| vd rfl (fun _ => Val.nilCheck rfl) <| vd rfl (fun _ => Val.fieldAddr fld52_3 rfl) <| vc rfl hCw.kp (fun W hW => Val.loadB scl50 rfl (hb00.kp hW rfl).blk rfl) <| zdm rfl rfl <| vd rfl (fun _ => Val.indexO sl50 hdd rfl rfl (by omega) (by omega)) <| vc rfl hCw.kp (fun W hW => Val.loadE1 scl59 rfl (hc660.kp hW rfl).cel) <| zdm rfl rfl <| zdm rfl rfl ?_
      refine vd rfl (fun _ => Val.nilCheck rfl) <| vd rfl (fun _ => Val.fieldAddr fld52_4 rfl) <| vc rfl hCw.kp (fun W hW => Val.loadB scl50 rfl (hb00.kp hW rfl).blk rfl) <| zdm rfl rfl <| vd rfl (fun _ => Val.indexO sl50 hcc rfl rfl (by omega) (by omega)) <| vc rfl hCw.kp (fun W hW => Val.loadE1 scl59 rfl (hc740.kp hW rfl).cel) <| zdm rfl rfl <| vd rfl (fun _ => Val.indexO sl59 hoc rfl rfl (by omega) (by omega)) <| vc rfl hCw.kp (fun W hW => Val.loadE1 scl9 rfl (hc770.kp hW rfl).cel) ?_
      refine vd rfl (fun _ => Val.indexO sl59 hod rfl rfl (by omega) (by omega)) ?_
      refine WD.wild rfl rfl rfl ((Eff.pdStore (x := .tmp 79) (y := .tmp 78) scl9 h hkk hyd rfl rfl (by rw [hdx, Int.toNat_natCast]; omega))) ?_
      rintro _ w3 ⟨c3, hM3, h⟩
      replace hJ := hJ.mv hM3; replace hL := hL.mv hM3; replace hc66 := hc66.mv hM3; replace hc40 := hc40.mv hM3; replace hc31 := hc31.mv hM3; replace hc43 := hc43.mv hM3; replace hc74 := hc74.mv hM3; replace hc85 := hc85.mv hM3
      rw [hdx, setD_set, Int.toNat_natCast] at h
      have hdx := dskA_set (x := { crTo L n i x with l := (crTo L n i x).l.set i (tx x.cache i) }) hkc
      have hkk : k < (setD (crB B L k) k { crTo L n i x with l := (crTo L n i x).l.set i (tx x.cache i) }).d.length := by rw [setD_len]; exact hkc
      refine WD.nil ?_
      clear hb00 hc660 hc400 hc310 hc430 hc740 hc850 hc770
      clear hCw
      refine cseq ?_
      have hb0 := h.hbp
      refine cg <| zm rfl <| vq (Val.nilCheck rfl) <| vq (Val.fieldAddr fld52_4 rfl) <| vq (Val.loadB scl50 rfl hb0.blk rfl) <| zm rfl <| vq (Val.indexO sl50 hcc rfl rfl (by omega) (by omega)) <| vq (Val.loadE1 scl59 rfl hc85.cel) <| zm rfl ?_
      refine vq (Val.indexO sl59 hoc rfl rfl (by omega) (by omega)) ?_
      refine WR.eff_ ((Eff.pcStore scl9 h hkk hyc rfl rfl (by rw [hdx, Int.toNat_natCast]; (try dsimp only); omega))) ?_
      rintro _ w4 ⟨c4, hM4, h⟩
      replace hJ := hJ.mv hM4; replace hL := hL.mv hM4
      rw [hdx, setD_set, Int.toNat_natCast] at h
      try dsimp only at h
      rw [crTo_live, ← hk1] at h
      refine cnil <| cg <| zm rfl <| vq (Val.addI rfl rfl side side) <| za rfl <| cnil <| cg <| zm rfl <| vq (Val.addI rfl rfl side side) ?_
      refine za rfl <| cnil ?_
      refine ⟨i + 1, ?_, ⟨by omega, _, hJ, hL, h⟩, by omega⟩
      rw [← e9]; exact subs
     ·skip
      have hpk : pick L t = false := by rw [← hc9]; simp [pick]
      rw [if_neg (by rw [hpk]; decide)] at hk1
      clear hq56
      refine cskip <| cseq ?_
      have hb0 := h.hbp
      refine cg <| zm rfl <| vq (Val.nilCheck rfl) <| vq (Val.fieldAddr fld52_4 rfl) <| vq (Val.loadB scl50 rfl hb0.blk rfl) <| zm rfl <| vq (Val.indexO sl50 hcc rfl rfl (by omega) (by omega)) <| vq (Val.loadE1 scl59 rfl hc85.cel) <| zm rfl ?_
      refine vq (Val.indexO sl59 hoc rfl rfl (by omega) (by omega)) ?_
      refine WR.eff_ ((Eff.pcStore scl9 h hkk hyc rfl rfl (by rw [hdx, Int.toNat_natCast]; (try dsimp only); omega))) ?_
      rintro _ w5 ⟨c5, hM5, h⟩
      replace hJ := hJ.mv hM5; replace hL := hL.mv hM5
      rw [hdx, setD_set, Int.toNat_natCast] at h
      try dsimp only at h
      rw [crTo_live, ← hk1] at h
      refine cnil <| cg <| zm rfl <| vq (Val.addI rfl rfl side side) <| za rfl <| cnil <| cg <| zm rfl <| vq (Val.addI rfl rfl side side) ?_
      refine za rfl <| cnil ?_
      refine ⟨i + 1, ?_, ⟨by omega, _, hJ, hL, h⟩, by omega⟩
      rw [← e9]; exact subs
   ·try simp only [tstS] at hc6
    have e : i = B.sectors := by have h5 : ¬ ((i : Int) < B.sectors) := hc6; omega
    rw [e, ← z2, hsu] at h
    have e2 : n + cnTo i x = dirtyPs (B.d.take (k + 1)) := by
      rw [List.take_succ_eq_append_getElem hk', dirtyPs_snoc, ← hn, show B.d[k] = x by rw [hxd]; simp [dskA, hk'], e, ← z2, cnTo_all]
    rw [e2]
    refine WC.exit rfl ?_
    refine cg <| zm rfl <| vq (Val.addI rfl rfl side side) <| za rfl <| cnil ?_
    exact ⟨k + 1, subs, ⟨by omega, _, hJ, hL, h⟩, by omega⟩
  ·try simp only [tstS] at hc3
   have e : k = B.d.length := by have h5 : ¬ ((k : Int) < B.d.length) := hc3; omega
   rw [e, crB_all] at h
   refine WC.exit rfl ?_
   refine ⟨_, _, rfl, rfl, ?_⟩
   exact ⟨rfl, _, hJ.out, (h.out hJ).shut (crB_all (B := B) (L := L) ▸ (crB_len B L B.d.length).symm)⟩
end
end Go.Proofs.Ytjddnaefmikccaa
