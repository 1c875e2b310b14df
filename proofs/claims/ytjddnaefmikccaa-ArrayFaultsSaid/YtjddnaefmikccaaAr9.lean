/- Disks: the power comes again. No condition. -/
import Derived.Test.YtjddnaefmikccaaAr8
set_option linter.unusedSimpArgs false
set_option linter.unusedVariables false
set_option maxRecDepth 100000
namespace Silo
open Go.Eng
def step1 (L : List Int) (a : Nat) (D : List Dsk) (x : Nat × Nat) : List Dsk :=
  if pick L a then (match D[x.1]? with | some y => D.set x.1 { y with l := y.l.set x.2 (tx y.cache x.2) } | none => D) else D
def foldP (L : List Int) (a : Nat) (D : List Dsk) : List (Nat × Nat) → List Dsk
  | [] => D
  | x :: r => foldP L (a + 1) (step1 L a D x) r
theorem foldP_append (L : List Int) (q : List (Nat × Nat)) : ∀ (r : List (Nat × Nat)) (a : Nat) (D : List Dsk), foldP L a D (r ++ q) = foldP L (a + r.length) (foldP L a D r) q
  | [], a, D => rfl
  | x :: r, a, D => by rw [List.cons_append, foldP, foldP, foldP_append L q r, List.length_cons]; congr 1; omega
theorem foldP_snoc (L : List Int) (x : Nat × Nat) (r : List (Nat × Nat)) (a : Nat) (D : List Dsk) : foldP L a D (r ++ [x]) = step1 L (a + r.length) (foldP L a D r) x := by rw [foldP_append]; rfl
theorem step1_kept (L : List Int) (a : Nat) (D : List Dsk) (x : Nat × Nat) : (step1 L a D x).map (fun y => (y.live, y.l.length, y.cache)) = D.map fun y => (y.live, y.l.length, y.cache) := by
  unfold step1
  split
  · split
    · rename_i y hy
      exact map_set_same (fun y : Dsk => (y.live, y.l.length, y.cache)) hy (by simp)
    · rfl
  · rfl
theorem foldP_kept (L : List Int) : ∀ (r : List (Nat × Nat)) (a : Nat) (D : List Dsk), (foldP L a D r).map (fun y => (y.live, y.l.length, y.cache)) = D.map fun y => (y.live, y.l.length, y.cache)
  | [], _, _ => rfl
  | x :: r, a, D => by rw [foldP, foldP_kept L r, step1_kept]
theorem foldP_at {L : List Int} {r : List (Nat × Nat)} {a : Nat} {D : List Dsk} {i : Nat} {x : Dsk} (h : D[i]? = some x) : ∃ y, (foldP L a D r)[i]? = some y ∧ y.cache = x.cache ∧ y.l.length = x.l.length := by
  have e := congrArg (·[i]?) (foldP_kept L r a D)
  simp only [List.getElem?_map, h, Option.map_some] at e
  cases hy : (foldP L a D r)[i]? with
  | none => rw [hy] at e; cases e
  | some y =>
    rw [hy] at e
    simp at e
    exact ⟨y, rfl, e.2.2, e.2.1⟩
theorem foldP_len {L : List Int} {r : List (Nat × Nat)} {a : Nat} {D : List Dsk} : (foldP L a D r).length = D.length := by
  have e := congrArg List.length (foldP_kept L r a D)
  simpa using e
/-- One disk's. -/
theorem foldP_one (L : List Int) (n : Nat) : ∀ (ks : List Nat) (a : Nat) (D : List Dsk) (x : Dsk), D[n]? = some x → foldP L a D (ks.map fun s => (n, s)) = D.set n { x with l := keepS L x.cache x.l a ks }
  | [], a, D, x, h => by rw [List.map_nil, foldP, keepS]; exact (set_same h).symm
  | k :: ks, a, D, x, h => by
    have hn : n < D.length := (List.getElem?_eq_some_iff.1 h).1
    rw [List.map_cons, foldP, keepS]
    by_cases hp : pick L a = true
    · have e1 : step1 L a D (n, k) = D.set n { x with l := x.l.set k (tx x.cache k) } := by simp only [step1, hp, if_true, h]
      rw [e1, foldP_one L n ks (a + 1) _ { x with l := x.l.set k (tx x.cache k) } (set_get hn), List.set_set, hp]; rfl
    · have hp' : pick L a = false := by simpa using hp
      have e1 : step1 L a D (n, k) = D := by simp [step1, hp']
      rw [e1, foldP_one L n ks (a + 1) D x h, hp']; rfl
/-- What lies on disks, caches as they are. -/
def crashK (L : List Int) : Nat → List Dsk → List Dsk
  | _, [] => []
  | a, x :: xs => { x with l := keepS L x.cache x.l a (keysT x.cache) } :: crashK L (a + (keysT x.cache).length) xs
def cnt (D : List Dsk) : Nat := (D.map fun x => (keysT x.cache).length).sum
theorem crashK_snoc (L : List Int) (x : Dsk) : ∀ (xs : List Dsk) (a : Nat), crashK L a (xs ++ [x]) = crashK L a xs ++ [{ x with l := keepS L x.cache x.l (a + cnt xs) (keysT x.cache) }]
  | [], a => by simp [crashK, cnt]
  | y :: ys, a => by
    have e : a + (keysT y.cache).length + cnt ys = a + cnt (y :: ys) := by simp [cnt]; omega
    rw [List.cons_append, crashK, crashK, crashK_snoc L x ys, e]; rfl
theorem crashK_len (L : List Int) : ∀ (xs : List Dsk) (a : Nat), (crashK L a xs).length = xs.length
  | [], _ => rfl
  | _ :: ys, a => by rw [crashK, List.length_cons, crashK_len L ys, List.length_cons]
theorem crashD_K (L : List Int) : ∀ (xs : List Dsk) (a : Nat), crashD L a xs = (crashK L a xs).map fun x => { x with cache := List.replicate x.cache.length [] }
  | [], _ => rfl
  | y :: ys, a => by rw [crashD, crashK, List.map_cons, crashD_K L ys]
theorem foldP_to (L : List Int) (D : List Dsk) : ∀ n, n ≤ D.length → foldP L 0 D (dirtyTo (D.map (·.cache)) n) = crashK L 0 (D.take n) ++ D.drop n ∧ (dirtyTo (D.map (·.cache)) n).length = cnt (D.take n)
  | 0, _ => by simp [dirtyTo, foldP, crashK, cnt]
  | n + 1, h => by
    obtain ⟨h1, h2⟩ := foldP_to L D n (by omega)
    have hn : n < D.length := h
    have hg : (D.map (·.cache)).getD n [] = D[n].cache := by simp [List.getD_eq_getElem?_getD, hn]
    have hdi : dirtyI (D.map (·.cache)) n = (keysT D[n].cache).map fun s => (n, s) := by rw [dirtyI, hg]
    have htk : D.take (n + 1) = D.take n ++ [D[n]] := List.take_succ_eq_append_getElem hn
    have hdr : D.drop n = D[n] :: D.drop (n + 1) := List.drop_eq_getElem_cons hn
    have hkl : (crashK L 0 (D.take n)).length = n := by rw [crashK_len, List.length_take]; omega
    constructor
    · rw [dirtyTo_succ, foldP_append, h1, hdi, Nat.zero_add, h2, foldP_one L n _ _ _ D[n] (by rw [List.getElem?_append_right (by omega), hkl, Nat.sub_self, hdr]; rfl), htk, crashK_snoc, Nat.zero_add, hdr, List.set_append_right _ _ (by omega), hkl, Nat.sub_self, List.set_cons_zero, List.append_assoc]; rfl
    · rw [dirtyTo_succ, List.length_append, h2, hdi, htk]
      simp only [cnt, List.map_append, List.sum_append, List.map_cons, List.map_nil, List.sum_cons, List.sum_nil, List.length_map, Nat.add_zero]
theorem foldP_all (L : List Int) (D : List Dsk) : foldP L 0 D (dirtyL (D.map (·.cache))) = crashK L 0 D := by
  have := (foldP_to L D D.length (Nat.le_refl _)).1
  rw [List.take_of_length_le (Nat.le_refl _), List.drop_of_length_le (Nat.le_refl _), List.append_nil] at this
  rw [dirtyL, List.length_map]; exact this
theorem mem_dirtyL {C : List (List Txt)} {x : Nat × Nat} (h : x ∈ dirtyL C) : x.1 < C.length ∧ tx (C.getD x.1 []) x.2 ≠ [] := by
  simp only [dirtyL, dirtyTo, dirtyI, List.mem_flatMap, List.mem_range, List.mem_map] at h
  obtain ⟨i, hi, s, hs, rfl⟩ := h
  exact ⟨hi, mem_keysT.1 hs⟩
/-- A list of which the head is turned. -/
def mapTo {α : Type} (f : α → α) (D : List α) (i : Nat) : List α := (D.take i).map f ++ D.drop i
theorem mapTo_get {α : Type} {f : α → α} {D : List α} {i : Nat} (h : i < D.length) : (mapTo f D i)[i]? = D[i]? := by
  rw [mapTo, List.getElem?_append_right (by simp; omega)]; simp [Nat.min_eq_left (Nat.le_of_lt h)]
theorem mapTo_set {α : Type} {f : α → α} {D : List α} {i : Nat} (h : i < D.length) : (mapTo f D i).set i (f D[i]) = mapTo f D (i + 1) := by
  have hl : ((D.take i).map f).length = i := by simp; omega
  rw [mapTo, mapTo, List.set_append_right _ _ (by omega), hl, Nat.sub_self, List.drop_eq_getElem_cons h, List.take_succ_eq_append_getElem h, List.set_cons_zero, List.map_append, List.append_assoc]; rfl
theorem mapTo_all {α : Type} {f : α → α} {D : List α} : mapTo f D D.length = D.map f := by simp [mapTo]
theorem mapTo_zero {α : Type} {f : α → α} {D : List α} : mapTo f D 0 = D := by simp [mapTo]
end Silo
namespace Go.Proofs.Ytjddnaefmikccaa
open Go Go.Eng Go.RowKit Silo TryT
section
variable {c : Nat → Nat} {w : World} {p : Nat} {A : Arr}
/-- What the loop of Crash knows between two rounds. -/
structure CrI (c0 : Nat → Nat) (w0 : World) (p b3 b4 : Nat) (v vL : Value) (X : List DX) (A : Arr) (L : List Int) (pre : List (Nat × Nat)) (d : Nat → Nat) (w : World) : Prop where
  hJ : OldJ c0 w0 colA d w
  hbp : BlkC d w 60 p [v, I A.sectors, .bool A.off, I A.left, I A.changes] 58
  hD : DisksX d w v X (foldP L 0 A.d pre)
  hb3 : BlkC d w 103 b3 [vL] 32
  hb4 : BlkC d w 104 b4 [I (pre.length : Nat)] 3
  hL : RdC intS d w [0] vL L
theorem CrI.mv {c0 : Nat → Nat} {w0 w w' : World} {p b3 b4 : Nat} {v vL : Value} {X : List DX} {A : Arr} {L : List Int} {pre : List (Nat × Nat)} {d d' : Nat → Nat} {I : List Nat} (h : CrI c0 w0 p b3 b4 v vL X A L pre d w) (m : Mv d w d' w' I)
    (hi : apartC [0, 60, 61, 62, 63, 103, 104] I = true := by rfl) : CrI c0 w0 p b3 b4 v vL X A L pre d' w' := by
  have hk : ∀ i ∈ [0, 60, 61, 62, 63, 103, 104], hasC I i = false := fun i h => apart_of hi h
  exact ⟨h.hJ.mv m (hk 0 (by simp)), h.hbp.mv m (hk 60 (by simp)), h.hD.mv m (hk 61 (by simp)) (hk 62 (by simp)) (hk 63 (by simp)), h.hb3.mv m (hk 103 (by simp)), h.hb4.mv m (hk 104 (by simp)), h.hL.mv m (apart_sub hi (by simp))⟩

set_option maxHeartbeats 2000000 in
theorem acrash_ok (h : ArrC c w p A) (hW : WfA A) {vL : Value} {L : List Int} {K : List Nat} (hL : RdC intS c w K vL L) (hK : apartC K colA = true) (hL64 : L.length ≤ 1048576) : Calls Try.prog 15 #[.pointer (some ⟨p, 0, none⟩), vL] w (Ret fun _ w' => ∃ c', Mv c w c' w' colA ∧ ArrC c' w' p (crashA A L)) := by
  obtain ⟨v, X, hbp, hD⟩ := h
  have hJ := OldJ.start c w colA
  replace hbp := hbp.inn (J := colA) rfl
  replace hD := hD.inn
  replace hL := hL.inn hK
  have q1 := hL.now.oneC; have q2 := hL.now.cellsV
  generalize mask c colA = c0 at hJ hbp hD hL
  have hXl := hD.len
  have z0 := hW.many
  refine enter (n := 63) (res := #[]) Try.func15 rfl rfl rfl rfl ?_
  refine cseq <| cg ?_
  refine ve (Eff.box1C c0 103 rfl ra) ?_
  rintro _ w1 ⟨b3, c1, rfl, hM1, hb3⟩
  replace hJ := hJ.mv hM1; replace hbp := hbp.mv hM1; replace hD := hD.mv hM1; replace hL := hL.mv hM1
  refine cnil <| cseq <| cg ?_
  refine ve (Eff.allocC c1 104 zero3) ?_
  rintro _ w2 ⟨b4, c2, rfl, hM2, hb4⟩
  replace hJ := hJ.mv hM2; replace hbp := hbp.mv hM2; replace hD := hD.mv hM2; replace hL := hL.mv hM2; replace hb3 := hb3.mv hM2
  refine WR.eff_ (Eff.storeC scl3 rfl rfl ra ra hb4 rfl) ?_
  rintro _ w3 ⟨hS, hM3⟩
  replace hJ := hJ.mv hM3; replace hbp := hbp.mv hM3; replace hD := hD.mv hM3; replace hL := hL.mv hM3; replace hb3 := hb3.mv hM3
  replace hb4 := hS
  refine cnil <| cseq <| cseq <| cg <| zm rfl ?_
  refine ve (Eff.pureC c2 76 (Eff.call pf31 rfl (adirtyF_ok))) ?_
  rintro v9 w4 ⟨c4, hM4, hx4, ⟨b9, rfl, hg9, hB9⟩⟩
  replace hJ := hJ.mv hM4; replace hbp := hbp.mv hM4; replace hD := hD.mv hM4; replace hL := hL.mv hM4; replace hb3 := hb3.mv hM4; replace hb4 := hb4.mv hM4
  refine cnil <| cblock ?_
  have hb9 : BlkC _ _ 76 b9 [.pointer (some ⟨p, 0, none⟩)] 26 := ⟨hB9, hx4 _ hg9⟩
  refine WC.rangeFunc (α := Nat × Nat) (encs := fun x => [.pointer (some (elemA v 3 x.1)), I x.2]) (κ := [77]) (F := [60, 61, 63, 76]) (L := dirtyL (A.d.map (·.cache)))
    (CrI c w p b3 b4 v vL X A L) [] (fun _ _ _ => False) [62, 104] rfl rfl pf54 (dirty_iter hb9 hbp hD.own hD.maps (by omega) (fun x hx => by obtain ⟨y, hy, rfl⟩ := List.mem_map.1 hx; have := (hW.each y hy).lc; have := hW.sec; omega)) rfl (fun _ => rfl) (by simp) rfl
    (fun _ d A d' B h m => h.mv m) (fun p hp => by simp at hp) (fun s d A d' B h _ => h.elim)
    ⟨hJ, hbp, hD, hb3, hb4, hL⟩ ?_ ?_ ?_ ?_
  ·clear hJ hbp hD hL hb3 hb4 hb9 hB9
   rintro l pre ⟨i, s⟩ d A1 ⟨hJ, hbp, hD, hb3, hb4, hL⟩ hpre
   have hA := Acc.refl d A1 [62, 104]
   obtain ⟨hi, hs⟩ := mem_dirtyL (hpre.subset (List.mem_append_right _ (List.mem_singleton.2 rfl)))
   dsimp only at hi hs
   rw [List.length_map] at hi
   have hgd : (A.d.map (·.cache)).getD i [] = A.d[i].cache := by simp [List.getD_eq_getElem?_getD, List.getElem?_eq_getElem hi]
   rw [hgd] at hs
   have hs2 := tx_lt hs
   obtain ⟨y, hy, hyc, hyl⟩ := foldP_at (L := L) (r := pre) (a := 0) (List.getElem?_eq_getElem hi)
   have hwy := hW.each _ (List.getElem_mem hi)
   obtain ⟨lv, m, hX⟩ := hD.at_ hy
   have z1 := hwy.ll; have z2 := hwy.lc; have z3 := hW.sec
   rw [← hyc] at hs2 hs z2
   rw [← hyl] at z1
   have hpl : pre.length ≤ 24576 := by
     have h1 := List.IsPrefix.length_le hpre
     rw [dirtyL, List.length_map, (foldP_to L A.d A.d.length (Nat.le_refl _)).2, List.take_of_length_le (Nat.le_refl _)] at h1
     have h2 := dirty_le hW A.d.length
     rw [dsum, List.take_of_length_le (by simp)] at h2
     simp only [cnt] at h1
     rw [List.length_append] at h1; omega
   refine cseq <| cg <| za rfl <| cnil <| cg <| za rfl <| cnil ?_
   refine ⟨_, hA, ?_⟩
   intro A2 hM2
   replace hJ := hJ.mv hM2; replace hbp := hbp.mv hM2; replace hD := hD.mv hM2; replace hL := hL.mv hM2; replace hb3 := hb3.mv hM2; replace hb4 := hb4.mv hM2
   have hA := Acc.refl d A2 [62, 104]
   refine cblock <| cseq <| cseq ?_
   have hq21 : 0 < L.length → CelC d A2 [0] (elemA vL 1 (pre.length % L.length)) [I (L.getD (pre.length % L.length) 0)] := fun h0 => by
     have hml := Nat.mod_lt pre.length h0
     have h1 := (RdC.elFlat hL hml (by decide)).1
     rw [show L.getD (pre.length % L.length) 0 = L[pre.length % L.length] by simp [List.getD_eq_getElem?_getD, List.getElem?_eq_getElem hml]]
     exact h1
   refine WC.regionD (Kp d A2 []) [1, 0, 0, 0, 1, 1, 1, 0, 0, 0, 1, 0, 0, 0] [0, 1, 2, 3, 4, 5, 6, 7, 8, 9, 10, 11, 12, 13] mixed (by kernel_rfl) ?_
   have hM5 := Mv.drew d A2 []
   have hCw := Mv.drew d A2 []
   generalize A2.drew = w5 at hM5 hCw ⊢
   have hbp0 := hbp
   have hb30 := hb3
   have hb40 := hb4
   replace hJ := hJ.mv hM5; replace hbp := hbp.mv hM5; replace hD := hD.mv hM5; replace hL := hL.mv hM5; replace hb3 := hb3.mv hM5; replace hb4 := hb4.mv hM5; replace hA := hA.mv hM5
   refine vc rfl hCw.kp (fun W hW => Val.loadB scl32 rfl (hb30.kp hW rfl).blk rfl) <| vd rfl (fun _ => Val.rdlen sl32 hL.now rfl) <| vd rfl (fun _ => Val.gtr rfl rfl) <| zdm rfl rfl ?_
   apply WD.sc true 9 (decide (L.getD (pre.length % L.length) 0 % 2 = 1)) (fun w' => w5 = w')
   case hl | hi | hk | hg | hu | hv | hs | hoff | hd => rfl
   case hC => exact hCw.kp
   case hF => exact fun _ => rfl
   case hT =>
    intro hq13
    try simp only [tstS] at hq13
    simp only [List.take_succ_cons, List.take_zero]
    have h0 : 0 < L.length := by omega
    have hml := Nat.mod_lt pre.length h0
    refine vc rfl hCw.kp (fun W hW => Val.loadB scl32 rfl (hb30.kp hW rfl).blk rfl) <| vc rfl hCw.kp (fun W hW => Val.loadB scl3 rfl (hb40.kp hW rfl).blk rfl) <| vc rfl hCw.kp (fun W hW => Val.loadB scl32 rfl (hb30.kp hW rfl).blk rfl) <| vd rfl (fun _ => Val.rdlen sl32 hL.now rfl) <| vd rfl (fun _ => Val.remI rfl rfl (by omega) (by omega)) ?_
    rw [show ((pre.length : Int) % (L.length : Int)) = ((pre.length % L.length : Nat) : Int) from rfl]
    refine vd rfl (fun _ => Val.indexAddr sl32 hL.now rfl rfl rfl (by omega) (by omega)) ?_
    rw [Int.toNat_natCast]
    refine vc rfl hCw.kp (fun W hW => Val.loadE1 scl3 rfl ((hq21 h0).kp hW rfl).cel) <| vd rfl (fun _ => Val.and1_i64 rfl rfl) <| vd rfl (fun _ => Val.eql rfl rfl) ?_
    exact WD.nil ⟨rfl, Sub.drop _ 9 _ rfl rfl, rfl⟩
   rintro _ rfl
   refine WD.nil ?_
   clear hbp0 hb30 hb40
   clear hCw
   refine WC.cond rfl (fun hc5 => ?_) (fun hc5 => ?_)
   ·skip
    have hpk : pick L pre.length = true := by rw [← hc5]; simp [pick]
    have hc27 := hD.cel hX
    have hc32 := hc27
    have hrw := hD.row hX hy
    have hq36 := hD.map hX hy
    refine WC.regionD (Kp d w5 []) [0, 0, 0, 1, 0, 0, 0, 0, 1, 0, 1, 0, 3] [0, 1, 2, 3, 4, 5, 6, 7, 8, 9, 10, 11, 12] mixed (by kernel_rfl) ?_
    have hM6 := Mv.drew d w5 []
    have hCw := Mv.drew d w5 []
    generalize w5.drew = w6 at hM6 hCw ⊢
    have hbp0 := hbp
    have hb30 := hb3
    have hb40 := hb4
    have hc270 := hc27
    have hc320 := hc32
    replace hJ := hJ.mv hM6; replace hbp := hbp.mv hM6; replace hD := hD.mv hM6; replace hL := hL.mv hM6; replace hb3 := hb3.mv hM6; replace hb4 := hb4.mv hM6; replace hA := hA.mv hM6; replace hc27 := hc27.mv hM6; replace hc32 := hc32.mv hM6
    refine zdm rfl rfl <| vd rfl (fun _ => Val.nilCheck rfl) <| vd rfl (fun _ => Val.fieldAddrP fld62_1 rfl) <| vc rfl hCw.kp (fun W hW => Val.loadEf scl59 rfl (hc270.kp hW rfl).cel rfl) <| zdm rfl rfl <| zdm rfl rfl <| vd rfl (fun _ => Val.nilCheck rfl) <| vd rfl (fun _ => Val.fieldAddrP fld62_2 rfl) <| vc rfl hCw.kp (fun W hW => Val.loadEf scl60 rfl (hc320.kp hW rfl).cel rfl) ?_
    refine zdm rfl rfl <| vc rfl hCw.kp (fun W hW => Val.look1 mapT rfl (hq36.kp hW rfl).obj rfl (by omega) (by omega)) <| vd rfl (fun _ => Val.indexO sl59 hrw rfl rfl (by omega) (by omega)) ?_
    refine WD.wild rfl rfl rfl ((Eff.diskStore (x1 := .tmp 37) (y := .tmp 36) scl9 hD hX hy rfl rfl (by rw [Int.toNat_natCast]; omega))) ?_
    rintro _ w7 ⟨c7, hM7, hD⟩
    replace hJ := hJ.mv hM7; replace hbp := hbp.mv hM7; replace hL := hL.mv hM7; replace hb3 := hb3.mv hM7; replace hb4 := hb4.mv hM7; replace hA := hA.mv hM7; replace hc27 := hc27.mv hM7; replace hc32 := hc32.mv hM7
    have hst : step1 L pre.length (foldP L 0 A.d pre) (i, s) = (foldP L 0 A.d pre).set i { y with l := y.l.set s (tx y.cache s) } := by simp only [step1, hpk, if_true, hy]
    rw [Int.toNat_natCast, ← hst] at hD
    refine WD.nil ?_
    clear hbp0 hb30 hb40 hc270 hc320
    clear hCw
    refine cg <| vq (Val.loadB scl3 rfl hb4.blk rfl) <| vq (Val.addI rfl rfl side side) ?_
    refine WR.eff_ (Eff.storeC scl3 rfl rfl ra ra hb4 rfl) ?_
    rintro _ w8 ⟨hS, hM8⟩
    replace hJ := hJ.mv hM8; replace hbp := hbp.mv hM8; replace hD := hD.mv hM8; replace hL := hL.mv hM8; replace hb3 := hb3.mv hM8; replace hA := hA.mv hM8; replace hc27 := hc27.mv hM8; replace hc32 := hc32.mv hM8
    replace hb4 := hS
    refine cnil ?_
    refine ⟨_, hA, hJ, hbp, ?_, hb3, ?_, hL⟩
    · rw [foldP_snoc, Nat.zero_add]; exact hD
    · rw [List.length_append]; exact hb4
   ·skip
    have hpk : pick L pre.length = false := by rw [← hc5]; simp [pick]
    have hst : step1 L pre.length (foldP L 0 A.d pre) (i, s) = foldP L 0 A.d pre := by simp [step1, hpk]
    rw [← hst] at hD
    refine cskip <| cg <| vq (Val.loadB scl3 rfl hb4.blk rfl) <| vq (Val.addI rfl rfl side side) ?_
    refine WR.eff_ (Eff.storeC scl3 rfl rfl ra ra hb4 rfl) ?_
    rintro _ w9 ⟨hS, hM9⟩
    replace hJ := hJ.mv hM9; replace hbp := hbp.mv hM9; replace hD := hD.mv hM9; replace hL := hL.mv hM9; replace hb3 := hb3.mv hM9; replace hA := hA.mv hM9
    replace hb4 := hS
    refine cnil ?_
    refine ⟨_, hA, hJ, hbp, ?_, hb3, ?_, hL⟩
    · rw [foldP_snoc, Nat.zero_add]; exact hD
    · rw [List.length_append]; exact hb4
  ·clear hJ hbp hD hL hb3 hb4 hb9 hB9
   rintro D9 d B ⟨hJ, hbp, hD, hb3, hb4, hL⟩ hDf
   rw [foldP_all] at hD
   obtain ⟨A0, cp, rfl, hl1, hl2⟩ := hD.form
   have hkl : (crashK L 0 A.d).length = A.d.length := crashK_len L _ _
   obtain ⟨D', hD'⟩ : ∃ D', D' = crashK L 0 A.d := ⟨_, rfl⟩
   rw [← hD'] at hD hl1 hkl hbp
   obtain ⟨clr, hclr⟩ : ∃ clr : Dsk → Dsk, clr = fun x => { x with cache := List.replicate x.cache.length [] } := ⟨_, rfl⟩
   refine cseq <| cseq <| cg <| zm rfl <| vq (Val.nilCheck rfl) <| vq (Val.fieldAddr fld58_0 rfl) <| vq (Val.loadB scl56 rfl hbp.blk rfl) ?_
   first | refine vq (Val.rdlen sl56 (by assumption) rfl) ?_ | refine vq (Val.sllen Try.underlying56 rfl) ?_ | refine vq (Val.olen sl56 (by assumption) rfl) ?_ | refine vq (Val.rdlenC sl56 (by assumption) rfl) ?_
   refine zm rfl <| cnil <| cblock ?_
   refine WC.loop (σ := Nat) (fun i => [(0, .pointer (some ⟨p, 0, none⟩)), (44, I D'.length), (45, I i)]) (fun i w' => i ≤ D'.length ∧ ∃ c', OldJ c w colA c' w' ∧ BlkC c' w' 60 p [.slice A0 D'.length cp, I A.sectors, .bool A.off, I A.left, I A.changes] 58 ∧ DisksX c' w' (.slice A0 D'.length cp) X (mapTo clr D' i) ∧ DefC c' w' D9) (fun i => D'.length - i) 0 subs ⟨by omega, _, hJ, hbp, by rw [mapTo_zero]; exact hD, hDf⟩ ?_
   clear hJ hbp hD hDf
   rintro i wl ⟨hi, cl, hJ, hbp, hD, hDf⟩
   refine cseq <| cg <| vq (Val.lss rfl rfl) <| cnil <| cseq ?_
   refine WC.cond rfl (fun hc9 => ?_) (fun hc9 => ?_)
   ·try simp only [tstS] at hc9
    have hi' : i < D'.length := by omega
    have hDi : (mapTo clr D' i)[i]? = some D'[i] := by rw [mapTo_get hi', List.getElem?_eq_getElem hi']
    obtain ⟨lv, m, hX⟩ := hD.at_ hDi
    have hc53 := hD.cel hX
    refine cskip <| cseq <| cblock <| cseq <| cg <| zm rfl <| za rfl <| cnil <| cg ?_
    refine zm rfl <| vq (Val.nilCheck rfl) <| vq (Val.fieldAddr fld58_0 rfl) <| vq (Val.loadB scl56 rfl hbp.blk rfl) <| zm rfl <| vq (Val.indexO sl56 hD.own rfl rfl (by omega) (by omega)) <| vq (Val.fieldAddrP fld62_2 rfl) <| vq (Val.loadEf scl60 rfl hc53.cel rfl) ?_
    refine WR.eff_ ((Eff.diskClear mapT hD hX hDi rfl)) ?_
    rintro _ w10 ⟨c10, hM10, hD⟩
    replace hJ := hJ.mv hM10; replace hbp := hbp.mv hM10; replace hDf := hDf.mv hM10; replace hc53 := hc53.mv hM10
    have hst : (mapTo clr D' i).set i { D'[i] with cache := List.replicate D'[i].cache.length [] } = mapTo clr D' (i + 1) := by rw [← mapTo_set hi', hclr]
    rw [hst] at hD
    refine cnil <| cg <| vq (Val.addI rfl rfl side side) <| zm rfl <| cnil ?_
    exact ⟨i + 1, subs, ⟨by omega, _, hJ, hbp, hD, hDf⟩, by omega⟩
   ·try simp only [tstS] at hc9
    have e : i = D'.length := by omega
    rw [e, mapTo_all] at hD
    refine WC.exit rfl ?_
    refine cg <| zm rfl <| zm rfl <| vq (Val.nilCheck rfl) <| vq (Val.fieldAddr fld58_2 rfl) ?_
    refine WR.eff_ (Eff.storeC scl4 rfl rfl ra ra hbp rfl) ?_
    rintro _ w11 ⟨hS, hM11⟩
    replace hJ := hJ.mv hM11; replace hD := hD.mv hM11; replace hDf := hDf.mv hM11
    replace hbp := hS
    refine vq (Val.nilCheck rfl) <| vq (Val.fieldAddr fld58_3 rfl) ?_
    refine WR.eff_ (Eff.storeC scl3 rfl rfl ra ra hbp rfl) ?_
    rintro _ w12 ⟨hS, hM12⟩
    replace hJ := hJ.mv hM12; replace hD := hD.mv hM12; replace hDf := hDf.mv hM12
    replace hbp := hS
    refine cnil ?_
    obtain ⟨hTk, hMTk⟩ := hDf.take
    replace hJ := hJ.mv hMTk; replace hbp := hbp.mv hMTk; replace hD := hD.mv hMTk
    refine ⟨_, _, rfl, hTk, ?_⟩
    refine ⟨rfl, _, hJ.out, _, X, hbp.out hJ rfl, ?_⟩
    rw [crashA, crashD_K, ← hD', ← hclr]
    exact hD.out hJ
  ·intro p hp; simp at hp
  ·exact fun _ _ _ _ h => h.elim
end
end Go.Proofs.Ytjddnaefmikccaa
