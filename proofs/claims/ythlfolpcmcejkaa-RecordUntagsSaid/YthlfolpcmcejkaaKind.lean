/- The records of one kind that a script's become. No condition. -/
import Derived.Test.YthlfolpcmcejkaaCol
import Derived.Test.YthlfolpcmcejkaaRec2
set_option linter.unusedSimpArgs false
set_option linter.unusedVariables false
set_option maxRecDepth 100000
namespace Go.Proofs.Ythlfolpcmcejkaa
open Go Go.Eng Go.RowKit Silo TryT

abbrev kRec : TypeId := 31
abbrev kAsk : TypeId := 26

def EachC (c : Nat → Nat) (w : World) (css : List (List Value)) : Prop := ∀ cs ∈ css, cs.length = 6 ∧ ∃ x, FtC (fun w' => recS.rd w'.heap.size w' cs x) c w [4]
theorem EachC.mv {w w' : World} {c c' : Nat → Nat} {css : List (List Value)} {I : List Nat} (h : EachC c w css) (m : Mv c w c' w' I) (hi : hasC I 4 = false) : EachC c' w' css := fun cs hcs => ⟨(h cs hcs).1, by
  obtain ⟨x, hx⟩ := (h cs hcs).2
  exact ⟨x, hx.mv m (by simp [apartC, hi])⟩⟩
theorem EachC.rd {w : World} {c : Nat → Nat} {css : List (List Value)} {v : Value} (h : EachC c w css) (ho : OwnC c w 3 kRec 6 v css.length css.flatten) (hs : css.length ≤ 140737488355328) : ∃ Q, Rd recS w v Q := by
  have hl : (css.attach.map fun cs => (h cs.1 cs.2).2.choose).length = css.length := by simp
  have := OwnC.rd (s := recS) (J := [3, 4]) (l := css.attach.map fun cs => (h cs.1 cs.2).2.choose) (css := css) (by rw [hl]; exact ho) (by rw [hl]; exact hs) hl.symm rfl (fun k cs x h1 h2 => by
    rw [List.getElem?_map, Option.map_eq_some_iff] at h2
    obtain ⟨a, ha, rfl⟩ := h2
    have e : a.1 = cs := by
      have h3 := congrArg (Option.map Subtype.val) ha
      rw [← List.getElem?_map, List.attach_map_subtype_val, h1] at h3
      simpa using h3.symm
    subst e
    exact FtC.more (h a.1 a.2).2.choose_spec rfl)
  exact ⟨_, this.now⟩
structure KS (w0 : World) (c : Nat → Nat) (w : World) (b2 b4 b5 : Nat) (vR vS vN vq : Value) (R : List Rec) (css : List (List Value)) : Prop where
  old : OldC w0 c w
  rd : RdC recS c w [0] vR R
  B2 : BlkC c w 102 b2 [vR, vS, vN] kAsk
  B4 : BlkC c w 104 b4 [.slice none 0 0, .slice none 0 0, .slice none 0 0] kAsk
  B5 : BlkC c w 105 b5 [vq, vS, vN] kAsk
  row : OwnC c w 3 kRec 6 vq css.length css.flatten
  each : EachC c w css
theorem KS.mv {w0 w w' : World} {c c' : Nat → Nat} {b2 b4 b5 : Nat} {vR vS vN vq : Value} {R : List Rec} {css : List (List Value)} {I : List Nat} (h : KS w0 c w b2 b4 b5 vR vS vN vq R css) (m : Mv c w c' w' I) (hi : apartC [0, 102, 104, 105, 3, 4] I = true) :
    KS w0 c' w' b2 b4 b5 vR vS vN vq R css := by
  simp only [apartC, List.all_cons, List.all_nil, Bool.and_true, Bool.and_eq_true, Bool.not_eq_true'] at hi
  obtain ⟨h1, h2, h3, h4, h5, h6⟩ := hi
  exact ⟨h.old.mv m h1, h.rd.mv m (by simp [apartC, h1]), h.B2.mv m h2, h.B4.mv m h3, h.B5.mv m h4, h.row.mv m h5, h.each.mv m h6⟩

theorem nilC {α : Type} (s : Shape α) (c : Nat → Nat) (w : World) (I : List Nat) : RdC s c w I (.slice none 0 0) [] := fun w' _ _ => RdS.nil s _ _
theorem BlkC.ints {c : Nat → Nat} {w : World} {i b : Nat} {l : List Int} {e : TypeId} (h : BlkC c w i b (l.flatMap fun x => [I x]) e) (hok : ∀ x ∈ l, Go.Eng.Int64 x) (hl : l.length ≤ 100) : RdC intS c w [i] (.slice (some ⟨b, 0, none⟩) l.length l.length) l := by
  have ho : OwnC c w i e 1 (.slice (some ⟨b, 0, none⟩) l.length l.length) l.length (l.flatMap fun x => [I x]) := h.own (by rw [flatMap_len (n := 1) (fun _ => rfl)]) (by omega)
  exact ho.rdFlat (by omega) hok
theorem BlkC.slots {c : Nat → Nat} {w : World} {i b : Nat} {l : List (Int × Int)} {e : TypeId} (h : BlkC c w i b (l.flatMap fun x => [I x.1, I x.2]) e) (hok : ∀ x ∈ l, Go.Eng.Int64 x.1 ∧ Go.Eng.Int64 x.2) (hl : l.length ≤ 100) : RdC slotS c w [i] (.slice (some ⟨b, 0, none⟩) l.length l.length) l := by
  have ho : OwnC c w i e 2 (.slice (some ⟨b, 0, none⟩) l.length l.length) l.length (l.flatMap fun x => [I x.1, I x.2]) := h.own (by rw [flatMap_len (n := 2) (fun _ => rfl)]) (by omega)
  exact ho.rdFlat (by omega) hok
theorem flat6 {css : List (List Value)} (h : ∀ cs ∈ css, cs.length = 6) : css.flatten.length = css.length * 6 := by
  induction css with
  | nil => rfl
  | cons c r ih => simp [ih fun x hx => h x (by simp [hx]), h c (by simp)]; omega

/-- A record under way. -/
structure KX (c : Nat → Nat) (w : World) (b9 : Nat) (kd id : Int) (nm dg : List UInt8) (vl vs : Value) (l : List Int) (sl : List (Int × Int)) : Prop where
  B9 : BlkC c w 109 b9 [I kd, I id, St nm, St dg, vl, vs] kRec
  ls : RdC intS c w [4] vl l
  ss : RdC slotS c w [4] vs sl
  kd : Go.Eng.Int64 kd
  id : Go.Eng.Int64 id
  nm : nm.length ≤ 140737488355328
  dg : dg.length ≤ 140737488355328
theorem KX.mv {w w' : World} {c c' : Nat → Nat} {b9 : Nat} {kd id : Int} {nm dg : List UInt8} {vl vs : Value} {l : List Int} {sl : List (Int × Int)} {I : List Nat} (h : KX c w b9 kd id nm dg vl vs l sl) (m : Mv c w c' w' I) (hi : apartC [109, 4] I = true) :
    KX c' w' b9 kd id nm dg vl vs l sl := by
  simp only [apartC, List.all_cons, List.all_nil, Bool.and_true, Bool.and_eq_true, Bool.not_eq_true'] at hi
  exact { h with B9 := h.B9.mv m hi.1, ls := h.ls.mv m (by simp [apartC, hi.2]), ss := h.ss.mv m (by simp [apartC, hi.2]) }

theorem KS.app {w0 w w' w'' : World} {c c' : Nat → Nat} {b2 b4 b5 : Nat} {vR vS vN vq vq' : Value} {R : List Rec} {css : List (List Value)} {new : List Value} (h : KS w0 c w b2 b4 b5 vR vS vN vq R css) (m : Mv c w c' w' [3])
    (hO : OwnC c' w' 3 kRec 6 vq' (css.length + 1) (css.flatten ++ new)) (hn : new.length = 6) (hx : ∃ x, FtC (fun w' => recS.rd w'.heap.size w' new x) c' w' [4]) (hS : BlkC c' w'' 105 b5 [vq', vS, vN] kAsk) (m2 : Mv c' w' c' w'' [105]) :
    KS w0 c' w'' b2 b4 b5 vR vS vN vq' R (css ++ [new]) := by
  refine ⟨(h.old.mv m rfl).mv m2 rfl, (h.rd.mv m rfl).mv m2 rfl, (h.B2.mv m rfl).mv m2 rfl, (h.B4.mv m rfl).mv m2 rfl, hS, ?_, ?_⟩
  · have := hO.mv m2 rfl
    simpa using this
  · intro cs hcs
    rcases List.mem_append.1 hcs with hcs | hcs
    · obtain ⟨h1, x, h2⟩ := h.each cs hcs
      exact ⟨h1, x, (h2.mv m rfl).mv m2 rfl⟩
    · rw [List.mem_singleton.1 hcs]
      obtain ⟨x, hx⟩ := hx
      exact ⟨hn, x, hx.mv m2 rfl⟩
theorem KX.foot {c : Nat → Nat} {w : World} {b9 : Nat} {kd id : Int} {nm dg : List UInt8} {vl vs : Value} {l : List Int} {sl : List (Int × Int)} (h : KX c w b9 kd id nm dg vl vs l sl) :
    FtC (fun w' => recS.rd w'.heap.size w' [I kd, I id, St nm, St dg, vl, vs] ⟨kd, id, nm, dg, l, sl⟩) c w [4] := fun w' hs hk => ⟨vl, vs, rfl, h.ls w' hs hk, h.ss w' hs hk, h.kd, h.id, h.nm, h.dg⟩
section
variable {c : Nat → Nat} {w : World} {b9 : Nat} {kd id : Int} {nm dg : List UInt8} {vl vs : Value} {l : List Int} {sl : List (Int × Int)} {P : Program} {env : Env} {t ty : TypeId} {x y : Operand}
theorem KX.stId (h : KX c w b9 kd id nm dg vl vs l sl) {id' : Int} (ht : sclT P t = true) (hx : evO env x = some (.pointer (some ⟨b9, 1, none⟩))) (hy : evO env y = some (I id')) (hi : Go.Eng.Int64 id') : Eff P env w (.store t x y) ty (fun _ w' => ∃ c', Mv c w c' w' [109] ∧ KX c' w' b9 kd id' nm dg vl vs l sl) :=
  h.B9.stX ht hx hy rfl rfl rfl (S := fun c' w' => KX c' w' b9 kd id' nm dg vl vs l sl) fun w' hS m => { h with B9 := hS, id := hi, ls := h.ls.mv m rfl, ss := h.ss.mv m rfl }
theorem KX.stNm (h : KX c w b9 kd id nm dg vl vs l sl) {nm' : List UInt8} (ht : sclT P t = true) (hx : evO env x = some (.pointer (some ⟨b9, 2, none⟩))) (hy : evO env y = some (St nm')) (hi : nm'.length ≤ 140737488355328) : Eff P env w (.store t x y) ty (fun _ w' => ∃ c', Mv c w c' w' [109] ∧ KX c' w' b9 kd id nm' dg vl vs l sl) :=
  h.B9.stX ht hx hy rfl rfl rfl (S := fun c' w' => KX c' w' b9 kd id nm' dg vl vs l sl) fun w' hS m => { h with B9 := hS, nm := hi, ls := h.ls.mv m rfl, ss := h.ss.mv m rfl }
theorem KX.stDg (h : KX c w b9 kd id nm dg vl vs l sl) {dg' : List UInt8} (ht : sclT P t = true) (hx : evO env x = some (.pointer (some ⟨b9, 3, none⟩))) (hy : evO env y = some (St dg')) (hi : dg'.length ≤ 140737488355328) : Eff P env w (.store t x y) ty (fun _ w' => ∃ c', Mv c w c' w' [109] ∧ KX c' w' b9 kd id nm dg' vl vs l sl) :=
  h.B9.stX ht hx hy rfl rfl rfl (S := fun c' w' => KX c' w' b9 kd id nm dg' vl vs l sl) fun w' hS m => { h with B9 := hS, dg := hi, ls := h.ls.mv m rfl, ss := h.ss.mv m rfl }
theorem KX.stLs (h : KX c w b9 kd id nm dg vl vs l sl) {v : Value} {l' : List Int} (ht : sclT P t = true) (hx : evO env x = some (.pointer (some ⟨b9, 4, none⟩))) (hy : evO env y = some v) (hr : RdC intS c w [4] v l') : Eff P env w (.store t x y) ty (fun _ w' => ∃ c', Mv c w c' w' [109] ∧ KX c' w' b9 kd id nm dg v vs l' sl) :=
  h.B9.stX ht hx hy hr.now.cellsV hr.now.oneC rfl (S := fun c' w' => KX c' w' b9 kd id nm dg v vs l' sl) fun w' hS m => { h with B9 := hS, ls := hr.mv m rfl, ss := h.ss.mv m rfl }
theorem KX.stSs (h : KX c w b9 kd id nm dg vl vs l sl) {v : Value} {sl' : List (Int × Int)} (ht : sclT P t = true) (hx : evO env x = some (.pointer (some ⟨b9, 5, none⟩))) (hy : evO env y = some v) (hr : RdC slotS c w [4] v sl') : Eff P env w (.store t x y) ty (fun _ w' => ∃ c', Mv c w c' w' [109] ∧ KX c' w' b9 kd id nm dg vl v l sl') :=
  h.B9.stX ht hx hy hr.now.cellsV hr.now.oneC rfl (S := fun c' w' => KX c' w' b9 kd id nm dg vl v l sl') fun w' hS m => { h with B9 := hS, ls := h.ls.mv m rfl, ss := hr.mv m rfl }
end

theorem i64_within (i n : Int) (h0 : 0 < n) (h1 : n ≤ 9223372036854775807) : Go.Eng.Int64 (within i n) := by
  have := within_lo i n h0
  have := within_hi i n h0
  constructor <;> omega

theorem kind_ok {w : World} {vR vS vN : Value} {R : List Rec} {S : List (List UInt8)} {N : List Int} (h1 : Rd recS w vR R) (h2 : Rd strS w vS S) (h3 : Rd intS w vN N) (hz : R.length * 96 ≤ 140737488355328)
    (hn : ∀ r ∈ R, r.name.length + 1 ≤ 140737488355328) (K : Int) (hK : Go.Eng.Int64 K) :
    Calls Try.prog 26 #[.agg #[vR, vS, vN], I K] w (Ret fun v w' => Below w.heap.size w w' ∧ ∃ vq Q, v = .agg #[vq, vS, vN] ∧ Rd recS w' vq Q) := by
  have oR := h1.oneC
  obtain ⟨AS, cS, rfl, _⟩ := h2.form
  obtain ⟨AN, cN, rfl, _⟩ := h3.form
  obtain ⟨vS, hvS⟩ : ∃ v, v = Value.slice AS S.length cS := ⟨_, rfl⟩
  obtain ⟨vN, hvN⟩ : ∃ v, v = Value.slice AN N.length cN := ⟨_, rfl⟩
  obtain ⟨c, hO, hc⟩ := OldC.start w
  have hR : RdC recS c w [0] vR R := Rd.toC h1 (fun k hk => by simp [hc, hasC])
  clear hc
  refine enter (n := 110) (res := #[.cell 4 26]) Try.func26 rfl rfl rfl rfl ?_
  refine cseq <| cregion ?_
  refine WR.eff (Eff.boxC c 102 rfl) rfl ?_
  rintro _ w1 ⟨b2, c1, rfl, hM1, hb2⟩
  replace hO := hO.mv hM1 rfl; replace hR := hR.mv hM1 rfl
  refine WR.eff (Eff.allocC c1 104 zero26) rfl ?_
  rintro _ w2 ⟨b4, c2, rfl, hM2, hb4⟩
  replace hO := hO.mv hM2 rfl; replace hR := hR.mv hM2 rfl; replace hb2 := hb2.mv hM2 rfl
  refine cnil <| cseq <| cregion ?_
  first | refine WR.val (Val.fieldAddr fld26_1 rfl) rfl ?_ | refine WR.val (Val.fieldAddrP fld26_1 rfl) rfl ?_
  refine qq (Val.loadB scl23 rfl hb2.blk rfl) rfl ?_
  first | refine WR.val (Val.fieldAddr fld26_2 rfl) rfl ?_ | refine WR.val (Val.fieldAddrP fld26_2 rfl) rfl ?_
  refine qq (Val.loadB scl24 rfl hb2.blk rfl) rfl <| qq (Val.build (cells := #[.slice none 0 0, .slice AS S.length cS, .slice AN N.length cN]) rfl (by kernel_rfl)) rfl ?_
  refine WR.eff (Eff.allocC c2 105 zero26) rfl ?_
  rintro _ w3 ⟨b5, c3, rfl, hM3, hb5⟩
  replace hO := hO.mv hM3 rfl; replace hR := hR.mv hM3 rfl; replace hb2 := hb2.mv hM3 rfl; replace hb4 := hb4.mv hM3 rfl
  refine WR.eff_ (Eff.storeNC agg26 rfl rfl hb5 rfl rfl (by repeat (first | exact List.forall_mem_nil _ | refine List.forall_mem_cons.2 ⟨by first | rfl | assumption, ?_⟩))) ?_
  rintro _ w4 ⟨hS, hM4⟩
  replace hO := hO.mv hM4 rfl; replace hR := hR.mv hM4 rfl; replace hb2 := hb2.mv hM4 rfl; replace hb4 := hb4.mv hM4 rfl
  replace hb5 := hS
  refine cnil ?_
  have oS : vS.oneCell' = true := by rw [hvS]; rfl
  have oN : vN.oneCell' = true := by rw [hvN]; rfl
  rw [← hvS, ← hvN] at hb2 hb5 ⊢
  refine cseq <| cseq <| cregion <| qq (Val.assign rfl) rfl <| cnil <| cblock ?_
  refine WC.loop (σ := Nat × Value × List (List Value)) (fun st => [(1, I K), (2, .pointer (some ⟨b2, 0, none⟩)), (4, .pointer (some ⟨b4, 0, none⟩)), (5, .pointer (some ⟨b5, 0, none⟩)), (6, I st.1)]) (fun st w' => ∃ c, KS w c w' b2 b4 b5 vR vS vN st.2.1 R st.2.2 ∧ st.2.2.length = st.1 ∧ st.1 ≤ R.length) (fun st => R.length - st.1) (0, .slice none 0 0, []) (by repeat (first | exact Sub.nil _ | refine Sub.cons rfl ?_)) ⟨_, ⟨hO, hR, hb2, hb4, hb5, OwnC.nil _ _ _ _ _, fun _ h => by cases h⟩, rfl, by simp⟩ ?_
  clear hO hR hb2 hb4 hb5
  rintro ⟨k, vq, css⟩ wl ⟨cl, h, hlen, hk⟩
  dsimp only at h hlen hk ⊢
  refine cseq <| cseq <| cregion <| qq (Val.move rfl) rfl ?_
  first | refine WR.val (Val.fieldAddr fld26_0 rfl) rfl ?_ | refine WR.val (Val.fieldAddrP fld26_0 rfl) rfl ?_
  refine qq (Val.loadB scl22 rfl h.B2.blk rfl) rfl ?_
  first | refine WR.val (Val.rdlen sl22 (by assumption) rfl) rfl ?_ | refine WR.val (Val.sllen Try.underlying22 rfl) rfl ?_ | refine WR.val (Val.olen sl22 (by assumption) rfl) rfl ?_
  refine qq (Val.lss rfl rfl) rfl <| cnil ?_
  refine WC.cond rfl (fun hc3 => ?_) (fun hc3 => ?_)
  ·try simp only [tstS] at hc3
   have ka : k < R.length := by omega
   obtain ⟨cs1, hc25, hl1, hf1⟩ := h.rd.el ka (by decide)
   obtain ⟨vl1, vs1, rfl, hvl, hvs, i1, i2, n1, n2⟩ := hf1.now
   have o1 := hvl.oneC; have o2 := hvs.oneC
   have hnk := hn R[k] (List.getElem_mem ka)
   refine cskip <| cseq <| cblock <| cseq <| cregion ?_
   first | refine WR.val (Val.fieldAddr fld26_0 rfl) rfl ?_ | refine WR.val (Val.fieldAddrP fld26_0 rfl) rfl ?_
   refine qq (Val.loadB scl22 rfl h.B2.blk rfl) rfl <| qq (Val.move rfl) rfl ?_
   first | refine WR.val (Val.indexAddr sl22 (by assumption) rfl rfl rfl (by first | omega | assumption | (simp; omega)) (by first | omega | assumption | (simp; omega))) rfl ?_ | refine WR.val (Val.indexO sl22 (by assumption) rfl rfl (by first | omega | assumption | (simp; omega)) (by first | omega | assumption | (simp; omega))) rfl ?_
   refine qq (Val.loadE agg31 rfl hc25.cel rfl) rfl ?_
   refine WR.eff (Eff.allocC cl 107 zero31) rfl ?_
   rintro _ w5 ⟨b7, c5, rfl, hM5, hb7⟩
   replace h := h.mv hM5 rfl; replace hc25 := hc25.mv hM5 rfl
   refine WR.eff_ (Eff.storeNC agg31 rfl rfl hb7 rfl rfl (by repeat (first | exact List.forall_mem_nil _ | refine List.forall_mem_cons.2 ⟨by first | rfl | assumption, ?_⟩))) ?_
   rintro _ w6 ⟨hS, hM6⟩
   replace h := h.mv hM6 rfl; replace hc25 := hc25.mv hM6 rfl
   replace hb7 := hS
   refine cnil ?_
   skip
   refine cseq ?_
   refine WC.regionD (Kp c5 w6 []) [0, 1, 2, 2, 0, 0] [0, 1, 2, 3, 4, 5] mixed (by kernel_rfl) ?_
   have hM7 := Mv.drew c5 w6 []
   have hCw := Mv.drew c5 w6 []
   generalize w6.drew = w7 at hM7 hCw ⊢
   have hb70 := hb7
   replace h := h.mv hM7 rfl; replace hb7 := hb7.mv hM7 rfl
   first | refine WD.val rfl rfl rfl (fun _ => Val.fieldAddr fld31_3 rfl) rfl ?_ | refine WD.val rfl rfl rfl (fun _ => Val.fieldAddrP fld31_3 rfl) rfl ?_
   refine qc rfl rfl rfl hCw.kp (fun W hW => Val.loadB scl9 rfl (hb70.kp hW rfl).blk rfl) rfl ?_
   refine WD.eff rfl rfl rfl (Eff.makeC c5 129 sl38 rfl rfl (by first | omega | assumption | (simp; omega)) (by first | omega | assumption | (simp; omega)) (by first | omega | assumption | (simp; omega))) rfl ?_
   rintro v29 w8 ⟨c8, hM8, ho29⟩
   refine ⟨fun hC => hC.step hCw hM8 rfl, ?_⟩
   replace hCw := hCw.tr hM8 rfl
   replace h := h.mv hM8 rfl; replace hb7 := hb7.mv hM8 rfl
   simp only [show Int.toNat 32 = 32 from rfl, bytesV_zero] at ho29
   refine WD.eff rfl rfl rfl (Eff.val ((Val.ofBytes Try.underlying38 Try.underlying9 Try.underlying5 rfl ho29.own))) rfl ?_
   rintro _ _ ⟨rfl, rfl⟩
   refine ⟨id, ?_⟩
   refine qd rfl rfl rfl (fun _ => Val.sadd rfl rfl (by first | omega | assumption | (simp; omega))) rfl <| qd rfl rfl rfl (fun _ => Val.assign rfl) rfl ?_
   refine WD.nil ?_
   clear hb70
   clear hCw
   have h32 : 32 ≤ (R[k].digest ++ List.replicate 32 0).length := by simp
   generalize R[k].digest ++ List.replicate 32 0 = dd at h32 ⊢
   skip
   refine cseq <| cregion <| qq (Val.move rfl) rfl <| qq (Val.build (cells := #[I K, I 0, St [], St [], .slice none 0 0, .slice none 0 0]) rfl (by kernel_rfl)) rfl ?_
   refine WR.eff (Eff.allocC c8 109 zero31) rfl ?_
   rintro _ w9 ⟨b9, c9, rfl, hM9, hb9⟩
   replace h := h.mv hM9 rfl; replace hb7 := hb7.mv hM9 rfl
   refine WR.eff_ (Eff.storeNC agg31 rfl rfl hb9 rfl rfl (by repeat (first | exact List.forall_mem_nil _ | refine List.forall_mem_cons.2 ⟨by first | rfl | assumption, ?_⟩))) ?_
   rintro _ w10 ⟨hS, hM10⟩
   replace h := h.mv hM10 rfl; replace hb7 := hb7.mv hM10 rfl
   replace hb9 := hS
   refine cnil ?_
   have hx : KX _ _ b9 K 0 [] [] (.slice none 0 0) (.slice none 0 0) [] [] := ⟨hb9, nilC _ _ _ _, nilC _ _ _ _, hK, ⟨by decide, by decide⟩, by simp, by simp⟩
   skip
   refine cseq <| cseq <| cregion <| qq (Val.move rfl) rfl <| cnil ?_
   refine WC.mono (N := fun e w' => ∃ c' id nm dg vl vs l sl, Sub [(1, I K), (2, .pointer (some ⟨b2, 0, none⟩)), (4, .pointer (some ⟨b4, 0, none⟩)), (5, .pointer (some ⟨b5, 0, none⟩)), (6, I k), (7, .pointer (some ⟨b7, 0, none⟩)), (9, .pointer (some ⟨b9, 0, none⟩))] e ∧ KS w c' w' b2 b4 b5 vR vS vN vq R css ∧ BlkC c' w' 107 b7 [I R[k].kind, I R[k].id, St R[k].name, St R[k].digest, vl1, vs1] kRec ∧ KX c' w' b9 K id nm dg vl vs l sl) ?_ ?_
   ·refine cblock <| cseq <| cseq <| cregion <| qq (Val.eql rfl rfl) rfl <| qq (Val.assign rfl) rfl <| cnil ?_
    refine WC.cond rfl (fun hc10 => ?_) (fun hc10 => ?_)
    ·try simp only [tstS] at hc10
     refine cskip ?_
     refine WC.cond rfl (fun hc10 => ?_) (fun hc10 => ?_)
     ·try simp only [tstS] at hc10
      refine cseq <| cregion ?_
      first | refine WR.val (Val.fieldAddr fld31_1 rfl) rfl ?_ | refine WR.val (Val.fieldAddrP fld31_1 rfl) rfl ?_
      refine qq (Val.loadB scl3 rfl hb7.blk rfl) rfl ?_
      refine WR.eff (Eff.pureC c9 1 (Eff.call pf27 rfl (within_ok _ _ i2 (by decide) (by decide)))) rfl ?_
      rintro v44 w11 ⟨c11, hM11, hx11, rfl⟩
      replace h := h.mv hM11 rfl; replace hb7 := hb7.mv hM11 rfl; replace hx := hx.mv hM11 rfl
      refine qq (Val.move rfl) rfl <| qq (Val.remI rfl rfl (by omega) (by omega)) rfl <| qq (Val.move rfl) rfl <| qq (Val.remI rfl rfl (by omega) (by omega)) rfl <| qq (Val.build (cells := #[I ((k : Int) % 4), I ((k : Int) % 9)]) rfl (by kernel_rfl)) rfl <| qq (Val.build (cells := #[I (-1), I 0]) rfl (by kernel_rfl)) rfl ?_
      refine WR.eff (Eff.buildC c11 4 sl29 rfl rfl rfl (by simp [Value.cells]) rfl rfl) rfl ?_
      rintro _ w12 ⟨b51, c12, rfl, hM12, hb51⟩
      replace h := h.mv hM12 rfl; replace hb7 := hb7.mv hM12 rfl; replace hx := hx.mv hM12 rfl
      first | refine WR.val (Val.fieldAddr fld31_1 rfl) rfl ?_ | refine WR.val (Val.fieldAddrP fld31_1 rfl) rfl ?_
      refine WR.eff_ ((hx.stId scl3 rfl rfl (i64_within _ _ (by decide) (by decide)))) ?_
      rintro _ w13 ⟨c13, hM13, hx⟩
      replace h := h.mv hM13 rfl; replace hb7 := hb7.mv hM13 rfl; replace hb51 := hb51.mv hM13 rfl
      first | refine WR.val (Val.fieldAddr fld31_5 rfl) rfl ?_ | refine WR.val (Val.fieldAddrP fld31_5 rfl) rfl ?_
      refine WR.eff_ ((hx.stSs scl29 rfl rfl (BlkC.slots (l := [((k : Int) % 4, (k : Int) % 9), (-1, 0)]) hb51 (by simp [Go.Eng.Int64]; omega) (by simp)))) ?_
      rintro _ w14 ⟨c14, hM14, hx⟩
      replace h := h.mv hM14 rfl; replace hb7 := hb7.mv hM14 rfl; replace hb51 := hb51.mv hM14 rfl
      refine cnil <| cseq <| cregion <| qq (Val.move rfl) rfl <| qq (Val.eql rfl rfl) rfl <| cnil ?_
      refine WC.cond rfl (fun hc13 => ?_) (fun hc13 => ?_)
      ·try simp only [tstS] at hc13
       refine cregion <| qq (Val.move rfl) rfl ?_
       first | refine WR.val (Val.fieldAddr fld31_1 rfl) rfl ?_ | refine WR.val (Val.fieldAddrP fld31_1 rfl) rfl ?_
       refine qq (Val.loadB scl3 rfl hb7.blk rfl) rfl ?_
       refine WR.eff (Eff.pureC c14 1 (Eff.call pf27 rfl (within_ok _ _ i2 (by decide) (by decide)))) rfl ?_
       rintro v59 w15 ⟨c15, hM15, hx15, rfl⟩
       replace h := h.mv hM15 rfl; replace hb7 := hb7.mv hM15 rfl; replace hx := hx.mv hM15 rfl
       refine WR.eff (Eff.buildC c15 4 sl24 rfl rfl rfl (by simp [Value.cells]) rfl rfl) rfl ?_
       rintro _ w16 ⟨b60, c16, rfl, hM16, hb60⟩
       replace h := h.mv hM16 rfl; replace hb7 := hb7.mv hM16 rfl; replace hx := hx.mv hM16 rfl
       first | refine WR.val (Val.fieldAddr fld31_4 rfl) rfl ?_ | refine WR.val (Val.fieldAddrP fld31_4 rfl) rfl ?_
       refine WR.eff_ ((hx.stLs scl24 rfl rfl (BlkC.ints (l := [(k : Int), within R[k].id 99]) hb60 (by simp; exact ⟨⟨by omega, by omega⟩, i64_within _ _ (by decide) (by decide)⟩) (by simp)))) ?_
       rintro _ w17 ⟨c17, hM17, hx⟩
       replace h := h.mv hM17 rfl; replace hb7 := hb7.mv hM17 rfl; replace hb60 := hb60.mv hM17 rfl
       refine cnil ?_
       exact ⟨_, _, _, _, _, _, _, _, (by repeat (first | exact Sub.nil _ | refine Sub.cons rfl ?_)), h, hb7, hx⟩
      ·try simp only [tstS] at hc13
       refine cskip ?_
       exact ⟨_, _, _, _, _, _, _, _, (by repeat (first | exact Sub.nil _ | refine Sub.cons rfl ?_)), h, hb7, hx⟩
     ·try simp only [tstS] at hc10
      refine cseq <| cregion <| qq (Val.eql rfl rfl) rfl <| qq (Val.assign rfl) rfl <| cnil ?_
      refine WC.cond rfl (fun hc15 => ?_) (fun hc15 => ?_)
      ·try simp only [tstS] at hc15
       refine cregion ?_
       first | refine WR.val (Val.fieldAddr fld31_1 rfl) rfl ?_ | refine WR.val (Val.fieldAddrP fld31_1 rfl) rfl ?_
       refine qq (Val.loadB scl3 rfl hb7.blk rfl) rfl ?_
       refine WR.eff (Eff.pureC c9 1 (Eff.call pf27 rfl (within_ok _ _ i2 (by decide) (by decide)))) rfl ?_
       rintro v66 w18 ⟨c18, hM18, hx18, rfl⟩
       replace h := h.mv hM18 rfl; replace hb7 := hb7.mv hM18 rfl; replace hx := hx.mv hM18 rfl
       first | refine WR.val (Val.fieldAddr fld31_1 rfl) rfl ?_ | refine WR.val (Val.fieldAddrP fld31_1 rfl) rfl ?_
       refine WR.eff_ ((hx.stId scl3 rfl rfl (i64_within _ _ (by decide) (by decide)))) ?_
       rintro _ w19 ⟨c19, hM19, hx⟩
       replace h := h.mv hM19 rfl; replace hb7 := hb7.mv hM19 rfl
       refine cnil ?_
       exact ⟨_, _, _, _, _, _, _, _, (by repeat (first | exact Sub.nil _ | refine Sub.cons rfl ?_)), h, hb7, hx⟩
      ·try simp only [tstS] at hc15
       refine cseq <| cseq <| cregion <| qq (Val.eql rfl rfl) rfl <| qq (Val.assign rfl) rfl <| cnil ?_
       refine WC.cond rfl (fun hc17 => ?_) (fun hc17 => ?_)
       ·try simp only [tstS] at hc17
        refine cskip ?_
        refine WC.cond rfl (fun hc17 => ?_) (fun hc17 => ?_)
        ·try simp only [tstS] at hc17
         refine WC.mono (N := fun e w' => ∃ c' id nm dg vl vs l sl, Sub [(1, I K), (2, .pointer (some ⟨b2, 0, none⟩)), (4, .pointer (some ⟨b4, 0, none⟩)), (5, .pointer (some ⟨b5, 0, none⟩)), (6, I k), (7, .pointer (some ⟨b7, 0, none⟩)), (9, .pointer (some ⟨b9, 0, none⟩))] e ∧ KS w c' w' b2 b4 b5 vR vS vN vq R css ∧ BlkC c' w' 107 b7 [I R[k].kind, I R[k].id, St R[k].name, St R[k].digest, vl1, vs1] kRec ∧ KX c' w' b9 K id nm dg vl vs l sl) ?_ ?_
         ·refine WC.regionT (Kp c9 w10 [109]) [0, 1, 2, 0, 0, 0, 0, 0, 2, 0, 3, 0, 3, 0, 3] (.quiet 0 (.quiet 1 (.quiet 3 (.quiet 4 (.quiet 5 (.quiet 6 (.quiet 7 (.two 2 (.quiet 9 (.two 8 (.one 10 (.quiet 11 (.one 12 (.quiet 13 (.one 14 .nil))))) 10 (.quiet 11 (.two 8 (.one 12 (.quiet 13 (.one 14 .nil))) 12 (.one 8 (.quiet 13 (.one 14 .nil))))))) 8 (.one 2 (.quiet 9 (.one 10 (.quiet 11 (.one 12 (.quiet 13 (.one 14 .nil))))))))))))))) mixed (by kernel_rfl) ?_
          have hM20 := Mv.drew c9 w10 []
          have hCw := Mv.drew c9 w10 [109]
          generalize w10.drew = w20 at hM20 hCw ⊢
          have h0 := h
          have hb70 := hb7
          replace h := h.mv hM20 rfl; replace hb7 := hb7.mv hM20 rfl; replace hx := hx.mv hM20 rfl
          first | refine WT.val rfl rfl rfl (fun _ => Val.fieldAddr fld31_1 rfl) rfl ?_ | refine WT.val rfl rfl rfl (fun _ => Val.fieldAddrP fld31_1 rfl) rfl ?_
          refine WT.valC rfl rfl rfl hCw.kp (fun W hW => Val.loadB scl3 rfl (hb70.kp hW rfl).blk rfl) rfl ?_
          refine WT.val rfl rfl rfl (fun _ => Val.move rfl) rfl ?_
          refine WT.val rfl rfl rfl (fun _ => Val.ssliceTo Try.underlying9 rfl rfl (by first | omega | assumption | (simp; omega)) (by first | omega | assumption | (simp; omega))) rfl ?_
          refine WT.val rfl rfl rfl (fun _ => Val.move rfl) rfl ?_
          refine WT.val rfl rfl rfl (fun _ => Val.move rfl) rfl ?_
          refine WT.val rfl rfl rfl (fun _ => Val.mulI rfl rfl (by first | omega | assumption | (simp; omega)) (by first | omega | assumption | (simp; omega))) rfl ?_
          refine WT.two ?_ ?_
          ·refine WS.eff rfl rfl rfl (Eff.pureC c9 1 (Eff.call pf27 rfl (within_ok _ _ i2 (by decide) (by decide)))) rfl ?_
           rintro v73 w21 ⟨c21, hM21, hx21, rfl⟩
           refine ⟨fun hC => hC.step hCw hM21 rfl, ?_⟩
           replace hCw := hCw.tr hM21 rfl
           replace h := h.mv hM21 rfl; replace hb7 := hb7.mv hM21 rfl; replace hx := hx.mv hM21 rfl
           first | refine WT.val rfl rfl rfl (fun _ => Val.fieldAddr fld31_1 rfl) rfl ?_ | refine WT.val rfl rfl rfl (fun _ => Val.fieldAddrP fld31_1 rfl) rfl ?_
           refine WT.two ?_ ?_
           ·refine WS.eff rfl rfl rfl (Eff.buildC c21 4 sl24 rfl rfl rfl (by simp [Value.cells]) rfl rfl) rfl ?_
            rintro _ w22 ⟨b79, c22, rfl, hM22, hb79⟩
            refine ⟨fun hC => hC.step hCw hM22 rfl, ?_⟩
            replace hCw := hCw.tr hM22 rfl
            replace h := h.mv hM22 rfl; replace hb7 := hb7.mv hM22 rfl; replace hx := hx.mv hM22 rfl
            refine WT.one ?_
            refine WS.wild rfl rfl rfl ((hx.stId scl3 rfl rfl (i64_within _ _ (by decide) (by decide)))) ?_
            rintro _ w23 ⟨c23, hM23, hx⟩
            replace hCw := hCw.tr hM23 rfl
            replace h := h.mv hM23 rfl; replace hb7 := hb7.mv hM23 rfl; replace hb79 := hb79.mv hM23 rfl
            first | refine WT.val rfl rfl rfl (fun _ => Val.fieldAddr fld31_3 rfl) rfl ?_ | refine WT.val rfl rfl rfl (fun _ => Val.fieldAddrP fld31_3 rfl) rfl ?_
            refine WT.one ?_
            refine WS.wild rfl rfl rfl ((hx.stDg scl9 rfl rfl (by simp; omega))) ?_
            rintro _ w24 ⟨c24, hM24, hx⟩
            replace hCw := hCw.tr hM24 rfl
            replace h := h.mv hM24 rfl; replace hb7 := hb7.mv hM24 rfl; replace hb79 := hb79.mv hM24 rfl
            first | refine WT.val rfl rfl rfl (fun _ => Val.fieldAddr fld31_4 rfl) rfl ?_ | refine WT.val rfl rfl rfl (fun _ => Val.fieldAddrP fld31_4 rfl) rfl ?_
            refine WT.one ?_
            refine WS.wild rfl rfl rfl ((hx.stLs scl24 rfl rfl (BlkC.ints (l := [(k : Int), 5, 7 * (k : Int)]) hb79 (by simp [Go.Eng.Int64]; omega) (by simp)))) ?_
            rintro _ w25 ⟨c25, hM25, hx⟩
            replace hCw := hCw.tr hM25 rfl
            replace h := h.mv hM25 rfl; replace hb7 := hb7.mv hM25 rfl; replace hb79 := hb79.mv hM25 rfl
            refine WT.nil ?_
            exact ⟨_, _, _, _, _, _, _, _, (by repeat (first | exact Sub.nil _ | refine Sub.cons rfl ?_)), h, hb7, hx⟩
           ·refine WS.wild rfl rfl rfl ((hx.stId scl3 rfl rfl (i64_within _ _ (by decide) (by decide)))) ?_
            rintro _ w26 ⟨c26, hM26, hx⟩
            replace hCw := hCw.tr hM26 rfl
            replace h := h.mv hM26 rfl; replace hb7 := hb7.mv hM26 rfl
            first | refine WT.val rfl rfl rfl (fun _ => Val.fieldAddr fld31_3 rfl) rfl ?_ | refine WT.val rfl rfl rfl (fun _ => Val.fieldAddrP fld31_3 rfl) rfl ?_
            refine WT.two ?_ ?_
            ·refine WS.eff rfl rfl rfl (Eff.buildC c26 4 sl24 rfl rfl rfl (by simp [Value.cells]) rfl rfl) rfl ?_
             rintro _ w27 ⟨b79, c27, rfl, hM27, hb79⟩
             refine ⟨fun hC => hC.step hCw hM27 rfl, ?_⟩
             replace hCw := hCw.tr hM27 rfl
             replace h := h.mv hM27 rfl; replace hb7 := hb7.mv hM27 rfl; replace hx := hx.mv hM27 rfl
             refine WT.one ?_
             refine WS.wild rfl rfl rfl ((hx.stDg scl9 rfl rfl (by simp; omega))) ?_
             rintro _ w28 ⟨c28, hM28, hx⟩
             replace hCw := hCw.tr hM28 rfl
             replace h := h.mv hM28 rfl; replace hb7 := hb7.mv hM28 rfl; replace hb79 := hb79.mv hM28 rfl
             first | refine WT.val rfl rfl rfl (fun _ => Val.fieldAddr fld31_4 rfl) rfl ?_ | refine WT.val rfl rfl rfl (fun _ => Val.fieldAddrP fld31_4 rfl) rfl ?_
             refine WT.one ?_
             refine WS.wild rfl rfl rfl ((hx.stLs scl24 rfl rfl (BlkC.ints (l := [(k : Int), 5, 7 * (k : Int)]) hb79 (by simp [Go.Eng.Int64]; omega) (by simp)))) ?_
             rintro _ w29 ⟨c29, hM29, hx⟩
             replace hCw := hCw.tr hM29 rfl
             replace h := h.mv hM29 rfl; replace hb7 := hb7.mv hM29 rfl; replace hb79 := hb79.mv hM29 rfl
             refine WT.nil ?_
             exact ⟨_, _, _, _, _, _, _, _, (by repeat (first | exact Sub.nil _ | refine Sub.cons rfl ?_)), h, hb7, hx⟩
            ·refine WS.wild rfl rfl rfl ((hx.stDg scl9 rfl rfl (by simp; omega))) ?_
             rintro _ w30 ⟨c30, hM30, hx⟩
             replace hCw := hCw.tr hM30 rfl
             replace h := h.mv hM30 rfl; replace hb7 := hb7.mv hM30 rfl
             refine WT.one ?_
             refine WS.eff rfl rfl rfl (Eff.buildC c30 4 sl24 rfl rfl rfl (by simp [Value.cells]) rfl rfl) rfl ?_
             rintro _ w31 ⟨b79, c31, rfl, hM31, hb79⟩
             refine ⟨fun hC => hC.step hCw hM31 rfl, ?_⟩
             replace hCw := hCw.tr hM31 rfl
             replace h := h.mv hM31 rfl; replace hb7 := hb7.mv hM31 rfl; replace hx := hx.mv hM31 rfl
             first | refine WT.val rfl rfl rfl (fun _ => Val.fieldAddr fld31_4 rfl) rfl ?_ | refine WT.val rfl rfl rfl (fun _ => Val.fieldAddrP fld31_4 rfl) rfl ?_
             refine WT.one ?_
             refine WS.wild rfl rfl rfl ((hx.stLs scl24 rfl rfl (BlkC.ints (l := [(k : Int), 5, 7 * (k : Int)]) hb79 (by simp [Go.Eng.Int64]; omega) (by simp)))) ?_
             rintro _ w32 ⟨c32, hM32, hx⟩
             replace hCw := hCw.tr hM32 rfl
             replace h := h.mv hM32 rfl; replace hb7 := hb7.mv hM32 rfl; replace hb79 := hb79.mv hM32 rfl
             refine WT.nil ?_
             exact ⟨_, _, _, _, _, _, _, _, (by repeat (first | exact Sub.nil _ | refine Sub.cons rfl ?_)), h, hb7, hx⟩
          ·refine WS.eff rfl rfl rfl (Eff.buildC c9 4 sl24 rfl rfl rfl (by simp [Value.cells]) rfl rfl) rfl ?_
           rintro _ w33 ⟨b79, c33, rfl, hM33, hb79⟩
           refine ⟨fun hC => hC.step hCw hM33 rfl, ?_⟩
           replace hCw := hCw.tr hM33 rfl
           replace h := h.mv hM33 rfl; replace hb7 := hb7.mv hM33 rfl; replace hx := hx.mv hM33 rfl
           refine WT.one ?_
           refine WS.eff rfl rfl rfl (Eff.pureC c33 1 (Eff.call pf27 rfl (within_ok _ _ i2 (by decide) (by decide)))) rfl ?_
           rintro v73 w34 ⟨c34, hM34, hx34, rfl⟩
           refine ⟨fun hC => hC.step hCw hM34 rfl, ?_⟩
           replace hCw := hCw.tr hM34 rfl
           replace h := h.mv hM34 rfl; replace hb7 := hb7.mv hM34 rfl; replace hx := hx.mv hM34 rfl; replace hb79 := hb79.mv hM34 rfl
           first | refine WT.val rfl rfl rfl (fun _ => Val.fieldAddr fld31_1 rfl) rfl ?_ | refine WT.val rfl rfl rfl (fun _ => Val.fieldAddrP fld31_1 rfl) rfl ?_
           refine WT.one ?_
           refine WS.wild rfl rfl rfl ((hx.stId scl3 rfl rfl (i64_within _ _ (by decide) (by decide)))) ?_
           rintro _ w35 ⟨c35, hM35, hx⟩
           replace hCw := hCw.tr hM35 rfl
           replace h := h.mv hM35 rfl; replace hb7 := hb7.mv hM35 rfl; replace hb79 := hb79.mv hM35 rfl
           first | refine WT.val rfl rfl rfl (fun _ => Val.fieldAddr fld31_3 rfl) rfl ?_ | refine WT.val rfl rfl rfl (fun _ => Val.fieldAddrP fld31_3 rfl) rfl ?_
           refine WT.one ?_
           refine WS.wild rfl rfl rfl ((hx.stDg scl9 rfl rfl (by simp; omega))) ?_
           rintro _ w36 ⟨c36, hM36, hx⟩
           replace hCw := hCw.tr hM36 rfl
           replace h := h.mv hM36 rfl; replace hb7 := hb7.mv hM36 rfl; replace hb79 := hb79.mv hM36 rfl
           first | refine WT.val rfl rfl rfl (fun _ => Val.fieldAddr fld31_4 rfl) rfl ?_ | refine WT.val rfl rfl rfl (fun _ => Val.fieldAddrP fld31_4 rfl) rfl ?_
           refine WT.one ?_
           refine WS.wild rfl rfl rfl ((hx.stLs scl24 rfl rfl (BlkC.ints (l := [(k : Int), 5, 7 * (k : Int)]) hb79 (by simp [Go.Eng.Int64]; omega) (by simp)))) ?_
           rintro _ w37 ⟨c37, hM37, hx⟩
           replace hCw := hCw.tr hM37 rfl
           replace h := h.mv hM37 rfl; replace hb7 := hb7.mv hM37 rfl; replace hb79 := hb79.mv hM37 rfl
           refine WT.nil ?_
           exact ⟨_, _, _, _, _, _, _, _, (by repeat (first | exact Sub.nil _ | refine Sub.cons rfl ?_)), h, hb7, hx⟩
         ·skip
          rintro e9 w9 ⟨c9, id9, nm9, dg9, vl9, vs9, l9, sl9, hsub, h, hb7, hx⟩
          exact ⟨_, _, _, _, _, _, _, _, hsub, h, hb7, hx⟩
        ·try simp only [tstS] at hc17
         refine cseq <| cregion <| qq (Val.eql rfl rfl) rfl <| qq (Val.assign rfl) rfl <| cnil ?_
         refine WC.cond rfl (fun hc20 => ?_) (fun hc20 => ?_)
         ·try simp only [tstS] at hc20
          refine cregion <| qq (Val.move rfl) rfl <| qq (Val.ssliceTo Try.underlying9 rfl rfl (by first | omega | assumption | (simp; omega)) (by first | omega | assumption | (simp; omega))) rfl ?_
          first | refine WR.val (Val.fieldAddr fld31_3 rfl) rfl ?_ | refine WR.val (Val.fieldAddrP fld31_3 rfl) rfl ?_
          refine WR.eff_ ((hx.stDg scl9 rfl rfl (by simp; omega))) ?_
          rintro _ w38 ⟨c38, hM38, hx⟩
          replace h := h.mv hM38 rfl; replace hb7 := hb7.mv hM38 rfl
          refine cnil ?_
          exact ⟨_, _, _, _, _, _, _, _, (by repeat (first | exact Sub.nil _ | refine Sub.cons rfl ?_)), h, hb7, hx⟩
         ·try simp only [tstS] at hc20
          refine cseq <| cregion <| qq (Val.eql rfl rfl) rfl <| qq (Val.assign rfl) rfl <| cnil ?_
          refine WC.cond rfl (fun hc22 => ?_) (fun hc22 => ?_)
          ·try simp only [tstS] at hc22
           refine WC.regionD (Kp c9 w10 []) [0, 1, 0, 0, 0, 0, 3, 0, 3] [0, 1, 2, 3, 4, 5, 6, 7, 8] mixed (by kernel_rfl) ?_
           have hM39 := Mv.drew c9 w10 []
           have hCw := Mv.drew c9 w10 []
           generalize w10.drew = w39 at hM39 hCw ⊢
           have hb70 := hb7
           replace h := h.mv hM39 rfl; replace hb7 := hb7.mv hM39 rfl; replace hx := hx.mv hM39 rfl
           first | refine WD.val rfl rfl rfl (fun _ => Val.fieldAddr fld31_2 rfl) rfl ?_ | refine WD.val rfl rfl rfl (fun _ => Val.fieldAddrP fld31_2 rfl) rfl ?_
           refine qc rfl rfl rfl hCw.kp (fun W hW => Val.loadB scl9 rfl (hb70.kp hW rfl).blk rfl) rfl <| qd rfl rfl rfl (fun _ => Val.sadd rfl rfl (by first | omega | assumption | (simp; omega))) rfl <| qd rfl rfl rfl (fun _ => Val.move rfl) rfl <| qd rfl rfl rfl (fun _ => Val.ssliceTo Try.underlying9 rfl rfl (by first | omega | assumption | (simp; omega)) (by first | omega | assumption | (simp; omega))) rfl ?_
           first | refine WD.val rfl rfl rfl (fun _ => Val.fieldAddr fld31_2 rfl) rfl ?_ | refine WD.val rfl rfl rfl (fun _ => Val.fieldAddrP fld31_2 rfl) rfl ?_
           refine WD.wild rfl rfl rfl ((hx.stNm scl9 rfl rfl (by simp; omega))) ?_
           rintro _ w40 ⟨c40, hM40, hx⟩
           replace h := h.mv hM40 rfl; replace hb7 := hb7.mv hM40 rfl
           first | refine WD.val rfl rfl rfl (fun _ => Val.fieldAddr fld31_3 rfl) rfl ?_ | refine WD.val rfl rfl rfl (fun _ => Val.fieldAddrP fld31_3 rfl) rfl ?_
           refine WD.wild rfl rfl rfl ((hx.stDg scl9 rfl rfl (by simp; omega))) ?_
           rintro _ w41 ⟨c41, hM41, hx⟩
           replace h := h.mv hM41 rfl; replace hb7 := hb7.mv hM41 rfl
           refine WD.nil ?_
           clear hb70
           clear hCw
           exact ⟨_, _, _, _, _, _, _, _, (by repeat (first | exact Sub.nil _ | refine Sub.cons rfl ?_)), h, hb7, hx⟩
          ·try simp only [tstS] at hc22
           refine cregion ?_
           first | refine WR.val (Val.fieldAddr fld31_2 rfl) rfl ?_ | refine WR.val (Val.fieldAddrP fld31_2 rfl) rfl ?_
           refine qq (Val.loadB scl9 rfl hb7.blk rfl) rfl <| qq (Val.sadd rfl rfl (by first | omega | assumption | (simp; omega))) rfl ?_
           first | refine WR.val (Val.fieldAddr fld31_2 rfl) rfl ?_ | refine WR.val (Val.fieldAddrP fld31_2 rfl) rfl ?_
           refine WR.eff_ ((hx.stNm scl9 rfl rfl (by simp; omega))) ?_
           rintro _ w42 ⟨c42, hM42, hx⟩
           replace h := h.mv hM42 rfl; replace hb7 := hb7.mv hM42 rfl
           refine cnil ?_
           exact ⟨_, _, _, _, _, _, _, _, (by repeat (first | exact Sub.nil _ | refine Sub.cons rfl ?_)), h, hb7, hx⟩
       ·try simp only [tstS] at hc17
        refine cregion <| qq (Val.eql rfl rfl) rfl <| qq (Val.assign rfl) rfl <| cnil ?_
        refine WC.cond rfl (fun hc18 => ?_) (fun hc18 => ?_)
        ·try simp only [tstS] at hc18
         refine WC.mono (N := fun e w' => ∃ c' id nm dg vl vs l sl, Sub [(1, I K), (2, .pointer (some ⟨b2, 0, none⟩)), (4, .pointer (some ⟨b4, 0, none⟩)), (5, .pointer (some ⟨b5, 0, none⟩)), (6, I k), (7, .pointer (some ⟨b7, 0, none⟩)), (9, .pointer (some ⟨b9, 0, none⟩))] e ∧ KS w c' w' b2 b4 b5 vR vS vN vq R css ∧ BlkC c' w' 107 b7 [I R[k].kind, I R[k].id, St R[k].name, St R[k].digest, vl1, vs1] kRec ∧ KX c' w' b9 K id nm dg vl vs l sl) ?_ ?_
         ·refine WC.regionT (Kp c9 w10 [109]) [0, 1, 2, 0, 0, 0, 0, 0, 2, 0, 3, 0, 3, 0, 3] (.quiet 0 (.quiet 1 (.quiet 3 (.quiet 4 (.quiet 5 (.quiet 6 (.quiet 7 (.two 2 (.quiet 9 (.two 8 (.one 10 (.quiet 11 (.one 12 (.quiet 13 (.one 14 .nil))))) 10 (.quiet 11 (.two 8 (.one 12 (.quiet 13 (.one 14 .nil))) 12 (.one 8 (.quiet 13 (.one 14 .nil))))))) 8 (.one 2 (.quiet 9 (.one 10 (.quiet 11 (.one 12 (.quiet 13 (.one 14 .nil))))))))))))))) mixed (by kernel_rfl) ?_
          have hM43 := Mv.drew c9 w10 []
          have hCw := Mv.drew c9 w10 [109]
          generalize w10.drew = w43 at hM43 hCw ⊢
          have h0 := h
          have hb70 := hb7
          replace h := h.mv hM43 rfl; replace hb7 := hb7.mv hM43 rfl; replace hx := hx.mv hM43 rfl
          first | refine WT.val rfl rfl rfl (fun _ => Val.fieldAddr fld31_1 rfl) rfl ?_ | refine WT.val rfl rfl rfl (fun _ => Val.fieldAddrP fld31_1 rfl) rfl ?_
          refine WT.valC rfl rfl rfl hCw.kp (fun W hW => Val.loadB scl3 rfl (hb70.kp hW rfl).blk rfl) rfl ?_
          refine WT.val rfl rfl rfl (fun _ => Val.move rfl) rfl ?_
          refine WT.val rfl rfl rfl (fun _ => Val.ssliceTo Try.underlying9 rfl rfl (by first | omega | assumption | (simp; omega)) (by first | omega | assumption | (simp; omega))) rfl ?_
          refine WT.val rfl rfl rfl (fun _ => Val.move rfl) rfl ?_
          refine WT.val rfl rfl rfl (fun _ => Val.move rfl) rfl ?_
          refine WT.val rfl rfl rfl (fun _ => Val.mulI rfl rfl (by first | omega | assumption | (simp; omega)) (by first | omega | assumption | (simp; omega))) rfl ?_
          refine WT.two ?_ ?_
          ·refine WS.eff rfl rfl rfl (Eff.pureC c9 1 (Eff.call pf27 rfl (within_ok _ _ i2 (by decide) (by decide)))) rfl ?_
           rintro v73 w44 ⟨c44, hM44, hx44, rfl⟩
           refine ⟨fun hC => hC.step hCw hM44 rfl, ?_⟩
           replace hCw := hCw.tr hM44 rfl
           replace h := h.mv hM44 rfl; replace hb7 := hb7.mv hM44 rfl; replace hx := hx.mv hM44 rfl
           first | refine WT.val rfl rfl rfl (fun _ => Val.fieldAddr fld31_1 rfl) rfl ?_ | refine WT.val rfl rfl rfl (fun _ => Val.fieldAddrP fld31_1 rfl) rfl ?_
           refine WT.two ?_ ?_
           ·refine WS.eff rfl rfl rfl (Eff.buildC c44 4 sl24 rfl rfl rfl (by simp [Value.cells]) rfl rfl) rfl ?_
            rintro _ w45 ⟨b79, c45, rfl, hM45, hb79⟩
            refine ⟨fun hC => hC.step hCw hM45 rfl, ?_⟩
            replace hCw := hCw.tr hM45 rfl
            replace h := h.mv hM45 rfl; replace hb7 := hb7.mv hM45 rfl; replace hx := hx.mv hM45 rfl
            refine WT.one ?_
            refine WS.wild rfl rfl rfl ((hx.stId scl3 rfl rfl (i64_within _ _ (by decide) (by decide)))) ?_
            rintro _ w46 ⟨c46, hM46, hx⟩
            replace hCw := hCw.tr hM46 rfl
            replace h := h.mv hM46 rfl; replace hb7 := hb7.mv hM46 rfl; replace hb79 := hb79.mv hM46 rfl
            first | refine WT.val rfl rfl rfl (fun _ => Val.fieldAddr fld31_3 rfl) rfl ?_ | refine WT.val rfl rfl rfl (fun _ => Val.fieldAddrP fld31_3 rfl) rfl ?_
            refine WT.one ?_
            refine WS.wild rfl rfl rfl ((hx.stDg scl9 rfl rfl (by simp; omega))) ?_
            rintro _ w47 ⟨c47, hM47, hx⟩
            replace hCw := hCw.tr hM47 rfl
            replace h := h.mv hM47 rfl; replace hb7 := hb7.mv hM47 rfl; replace hb79 := hb79.mv hM47 rfl
            first | refine WT.val rfl rfl rfl (fun _ => Val.fieldAddr fld31_4 rfl) rfl ?_ | refine WT.val rfl rfl rfl (fun _ => Val.fieldAddrP fld31_4 rfl) rfl ?_
            refine WT.one ?_
            refine WS.wild rfl rfl rfl ((hx.stLs scl24 rfl rfl (BlkC.ints (l := [(k : Int), 5, 7 * (k : Int)]) hb79 (by simp [Go.Eng.Int64]; omega) (by simp)))) ?_
            rintro _ w48 ⟨c48, hM48, hx⟩
            replace hCw := hCw.tr hM48 rfl
            replace h := h.mv hM48 rfl; replace hb7 := hb7.mv hM48 rfl; replace hb79 := hb79.mv hM48 rfl
            refine WT.nil ?_
            exact ⟨_, _, _, _, _, _, _, _, (by repeat (first | exact Sub.nil _ | refine Sub.cons rfl ?_)), h, hb7, hx⟩
           ·refine WS.wild rfl rfl rfl ((hx.stId scl3 rfl rfl (i64_within _ _ (by decide) (by decide)))) ?_
            rintro _ w49 ⟨c49, hM49, hx⟩
            replace hCw := hCw.tr hM49 rfl
            replace h := h.mv hM49 rfl; replace hb7 := hb7.mv hM49 rfl
            first | refine WT.val rfl rfl rfl (fun _ => Val.fieldAddr fld31_3 rfl) rfl ?_ | refine WT.val rfl rfl rfl (fun _ => Val.fieldAddrP fld31_3 rfl) rfl ?_
            refine WT.two ?_ ?_
            ·refine WS.eff rfl rfl rfl (Eff.buildC c49 4 sl24 rfl rfl rfl (by simp [Value.cells]) rfl rfl) rfl ?_
             rintro _ w50 ⟨b79, c50, rfl, hM50, hb79⟩
             refine ⟨fun hC => hC.step hCw hM50 rfl, ?_⟩
             replace hCw := hCw.tr hM50 rfl
             replace h := h.mv hM50 rfl; replace hb7 := hb7.mv hM50 rfl; replace hx := hx.mv hM50 rfl
             refine WT.one ?_
             refine WS.wild rfl rfl rfl ((hx.stDg scl9 rfl rfl (by simp; omega))) ?_
             rintro _ w51 ⟨c51, hM51, hx⟩
             replace hCw := hCw.tr hM51 rfl
             replace h := h.mv hM51 rfl; replace hb7 := hb7.mv hM51 rfl; replace hb79 := hb79.mv hM51 rfl
             first | refine WT.val rfl rfl rfl (fun _ => Val.fieldAddr fld31_4 rfl) rfl ?_ | refine WT.val rfl rfl rfl (fun _ => Val.fieldAddrP fld31_4 rfl) rfl ?_
             refine WT.one ?_
             refine WS.wild rfl rfl rfl ((hx.stLs scl24 rfl rfl (BlkC.ints (l := [(k : Int), 5, 7 * (k : Int)]) hb79 (by simp [Go.Eng.Int64]; omega) (by simp)))) ?_
             rintro _ w52 ⟨c52, hM52, hx⟩
             replace hCw := hCw.tr hM52 rfl
             replace h := h.mv hM52 rfl; replace hb7 := hb7.mv hM52 rfl; replace hb79 := hb79.mv hM52 rfl
             refine WT.nil ?_
             exact ⟨_, _, _, _, _, _, _, _, (by repeat (first | exact Sub.nil _ | refine Sub.cons rfl ?_)), h, hb7, hx⟩
            ·refine WS.wild rfl rfl rfl ((hx.stDg scl9 rfl rfl (by simp; omega))) ?_
             rintro _ w53 ⟨c53, hM53, hx⟩
             replace hCw := hCw.tr hM53 rfl
             replace h := h.mv hM53 rfl; replace hb7 := hb7.mv hM53 rfl
             refine WT.one ?_
             refine WS.eff rfl rfl rfl (Eff.buildC c53 4 sl24 rfl rfl rfl (by simp [Value.cells]) rfl rfl) rfl ?_
             rintro _ w54 ⟨b79, c54, rfl, hM54, hb79⟩
             refine ⟨fun hC => hC.step hCw hM54 rfl, ?_⟩
             replace hCw := hCw.tr hM54 rfl
             replace h := h.mv hM54 rfl; replace hb7 := hb7.mv hM54 rfl; replace hx := hx.mv hM54 rfl
             first | refine WT.val rfl rfl rfl (fun _ => Val.fieldAddr fld31_4 rfl) rfl ?_ | refine WT.val rfl rfl rfl (fun _ => Val.fieldAddrP fld31_4 rfl) rfl ?_
             refine WT.one ?_
             refine WS.wild rfl rfl rfl ((hx.stLs scl24 rfl rfl (BlkC.ints (l := [(k : Int), 5, 7 * (k : Int)]) hb79 (by simp [Go.Eng.Int64]; omega) (by simp)))) ?_
             rintro _ w55 ⟨c55, hM55, hx⟩
             replace hCw := hCw.tr hM55 rfl
             replace h := h.mv hM55 rfl; replace hb7 := hb7.mv hM55 rfl; replace hb79 := hb79.mv hM55 rfl
             refine WT.nil ?_
             exact ⟨_, _, _, _, _, _, _, _, (by repeat (first | exact Sub.nil _ | refine Sub.cons rfl ?_)), h, hb7, hx⟩
          ·refine WS.eff rfl rfl rfl (Eff.buildC c9 4 sl24 rfl rfl rfl (by simp [Value.cells]) rfl rfl) rfl ?_
           rintro _ w56 ⟨b79, c56, rfl, hM56, hb79⟩
           refine ⟨fun hC => hC.step hCw hM56 rfl, ?_⟩
           replace hCw := hCw.tr hM56 rfl
           replace h := h.mv hM56 rfl; replace hb7 := hb7.mv hM56 rfl; replace hx := hx.mv hM56 rfl
           refine WT.one ?_
           refine WS.eff rfl rfl rfl (Eff.pureC c56 1 (Eff.call pf27 rfl (within_ok _ _ i2 (by decide) (by decide)))) rfl ?_
           rintro v73 w57 ⟨c57, hM57, hx57, rfl⟩
           refine ⟨fun hC => hC.step hCw hM57 rfl, ?_⟩
           replace hCw := hCw.tr hM57 rfl
           replace h := h.mv hM57 rfl; replace hb7 := hb7.mv hM57 rfl; replace hx := hx.mv hM57 rfl; replace hb79 := hb79.mv hM57 rfl
           first | refine WT.val rfl rfl rfl (fun _ => Val.fieldAddr fld31_1 rfl) rfl ?_ | refine WT.val rfl rfl rfl (fun _ => Val.fieldAddrP fld31_1 rfl) rfl ?_
           refine WT.one ?_
           refine WS.wild rfl rfl rfl ((hx.stId scl3 rfl rfl (i64_within _ _ (by decide) (by decide)))) ?_
           rintro _ w58 ⟨c58, hM58, hx⟩
           replace hCw := hCw.tr hM58 rfl
           replace h := h.mv hM58 rfl; replace hb7 := hb7.mv hM58 rfl; replace hb79 := hb79.mv hM58 rfl
           first | refine WT.val rfl rfl rfl (fun _ => Val.fieldAddr fld31_3 rfl) rfl ?_ | refine WT.val rfl rfl rfl (fun _ => Val.fieldAddrP fld31_3 rfl) rfl ?_
           refine WT.one ?_
           refine WS.wild rfl rfl rfl ((hx.stDg scl9 rfl rfl (by simp; omega))) ?_
           rintro _ w59 ⟨c59, hM59, hx⟩
           replace hCw := hCw.tr hM59 rfl
           replace h := h.mv hM59 rfl; replace hb7 := hb7.mv hM59 rfl; replace hb79 := hb79.mv hM59 rfl
           first | refine WT.val rfl rfl rfl (fun _ => Val.fieldAddr fld31_4 rfl) rfl ?_ | refine WT.val rfl rfl rfl (fun _ => Val.fieldAddrP fld31_4 rfl) rfl ?_
           refine WT.one ?_
           refine WS.wild rfl rfl rfl ((hx.stLs scl24 rfl rfl (BlkC.ints (l := [(k : Int), 5, 7 * (k : Int)]) hb79 (by simp [Go.Eng.Int64]; omega) (by simp)))) ?_
           rintro _ w60 ⟨c60, hM60, hx⟩
           replace hCw := hCw.tr hM60 rfl
           replace h := h.mv hM60 rfl; replace hb7 := hb7.mv hM60 rfl; replace hb79 := hb79.mv hM60 rfl
           refine WT.nil ?_
           exact ⟨_, _, _, _, _, _, _, _, (by repeat (first | exact Sub.nil _ | refine Sub.cons rfl ?_)), h, hb7, hx⟩
         ·skip
          rintro e9 w9 ⟨c9, id9, nm9, dg9, vl9, vs9, l9, sl9, hsub, h, hb7, hx⟩
          exact ⟨_, _, _, _, _, _, _, _, hsub, h, hb7, hx⟩
        ·try simp only [tstS] at hc18
         refine cseq <| cregion <| qq (Val.eql rfl rfl) rfl <| qq (Val.assign rfl) rfl <| cnil ?_
         refine WC.cond rfl (fun hc20 => ?_) (fun hc20 => ?_)
         ·try simp only [tstS] at hc20
          refine cregion <| qq (Val.move rfl) rfl <| qq (Val.ssliceTo Try.underlying9 rfl rfl (by first | omega | assumption | (simp; omega)) (by first | omega | assumption | (simp; omega))) rfl ?_
          first | refine WR.val (Val.fieldAddr fld31_3 rfl) rfl ?_ | refine WR.val (Val.fieldAddrP fld31_3 rfl) rfl ?_
          refine WR.eff_ ((hx.stDg scl9 rfl rfl (by simp; omega))) ?_
          rintro _ w61 ⟨c61, hM61, hx⟩
          replace h := h.mv hM61 rfl; replace hb7 := hb7.mv hM61 rfl
          refine cnil ?_
          exact ⟨_, _, _, _, _, _, _, _, (by repeat (first | exact Sub.nil _ | refine Sub.cons rfl ?_)), h, hb7, hx⟩
         ·try simp only [tstS] at hc20
          refine cseq <| cregion <| qq (Val.eql rfl rfl) rfl <| qq (Val.assign rfl) rfl <| cnil ?_
          refine WC.cond rfl (fun hc22 => ?_) (fun hc22 => ?_)
          ·try simp only [tstS] at hc22
           refine WC.regionD (Kp c9 w10 []) [0, 1, 0, 0, 0, 0, 3, 0, 3] [0, 1, 2, 3, 4, 5, 6, 7, 8] mixed (by kernel_rfl) ?_
           have hM62 := Mv.drew c9 w10 []
           have hCw := Mv.drew c9 w10 []
           generalize w10.drew = w62 at hM62 hCw ⊢
           have hb70 := hb7
           replace h := h.mv hM62 rfl; replace hb7 := hb7.mv hM62 rfl; replace hx := hx.mv hM62 rfl
           first | refine WD.val rfl rfl rfl (fun _ => Val.fieldAddr fld31_2 rfl) rfl ?_ | refine WD.val rfl rfl rfl (fun _ => Val.fieldAddrP fld31_2 rfl) rfl ?_
           refine qc rfl rfl rfl hCw.kp (fun W hW => Val.loadB scl9 rfl (hb70.kp hW rfl).blk rfl) rfl <| qd rfl rfl rfl (fun _ => Val.sadd rfl rfl (by first | omega | assumption | (simp; omega))) rfl <| qd rfl rfl rfl (fun _ => Val.move rfl) rfl <| qd rfl rfl rfl (fun _ => Val.ssliceTo Try.underlying9 rfl rfl (by first | omega | assumption | (simp; omega)) (by first | omega | assumption | (simp; omega))) rfl ?_
           first | refine WD.val rfl rfl rfl (fun _ => Val.fieldAddr fld31_2 rfl) rfl ?_ | refine WD.val rfl rfl rfl (fun _ => Val.fieldAddrP fld31_2 rfl) rfl ?_
           refine WD.wild rfl rfl rfl ((hx.stNm scl9 rfl rfl (by simp; omega))) ?_
           rintro _ w63 ⟨c63, hM63, hx⟩
           replace h := h.mv hM63 rfl; replace hb7 := hb7.mv hM63 rfl
           first | refine WD.val rfl rfl rfl (fun _ => Val.fieldAddr fld31_3 rfl) rfl ?_ | refine WD.val rfl rfl rfl (fun _ => Val.fieldAddrP fld31_3 rfl) rfl ?_
           refine WD.wild rfl rfl rfl ((hx.stDg scl9 rfl rfl (by simp; omega))) ?_
           rintro _ w64 ⟨c64, hM64, hx⟩
           replace h := h.mv hM64 rfl; replace hb7 := hb7.mv hM64 rfl
           refine WD.nil ?_
           clear hb70
           clear hCw
           exact ⟨_, _, _, _, _, _, _, _, (by repeat (first | exact Sub.nil _ | refine Sub.cons rfl ?_)), h, hb7, hx⟩
          ·try simp only [tstS] at hc22
           refine cregion ?_
           first | refine WR.val (Val.fieldAddr fld31_2 rfl) rfl ?_ | refine WR.val (Val.fieldAddrP fld31_2 rfl) rfl ?_
           refine qq (Val.loadB scl9 rfl hb7.blk rfl) rfl <| qq (Val.sadd rfl rfl (by first | omega | assumption | (simp; omega))) rfl ?_
           first | refine WR.val (Val.fieldAddr fld31_2 rfl) rfl ?_ | refine WR.val (Val.fieldAddrP fld31_2 rfl) rfl ?_
           refine WR.eff_ ((hx.stNm scl9 rfl rfl (by simp; omega))) ?_
           rintro _ w65 ⟨c65, hM65, hx⟩
           replace h := h.mv hM65 rfl; replace hb7 := hb7.mv hM65 rfl
           refine cnil ?_
           exact ⟨_, _, _, _, _, _, _, _, (by repeat (first | exact Sub.nil _ | refine Sub.cons rfl ?_)), h, hb7, hx⟩
    ·try simp only [tstS] at hc10
     refine cregion <| qq (Val.eql rfl rfl) rfl <| qq (Val.assign rfl) rfl <| cnil ?_
     refine WC.cond rfl (fun hc11 => ?_) (fun hc11 => ?_)
     ·try simp only [tstS] at hc11
      refine cseq <| cregion ?_
      first | refine WR.val (Val.fieldAddr fld31_1 rfl) rfl ?_ | refine WR.val (Val.fieldAddrP fld31_1 rfl) rfl ?_
      refine qq (Val.loadB scl3 rfl hb7.blk rfl) rfl ?_
      refine WR.eff (Eff.pureC c9 1 (Eff.call pf27 rfl (within_ok _ _ i2 (by decide) (by decide)))) rfl ?_
      rintro v44 w66 ⟨c66, hM66, hx66, rfl⟩
      replace h := h.mv hM66 rfl; replace hb7 := hb7.mv hM66 rfl; replace hx := hx.mv hM66 rfl
      refine qq (Val.move rfl) rfl <| qq (Val.remI rfl rfl (by omega) (by omega)) rfl <| qq (Val.move rfl) rfl <| qq (Val.remI rfl rfl (by omega) (by omega)) rfl <| qq (Val.build (cells := #[I ((k : Int) % 4), I ((k : Int) % 9)]) rfl (by kernel_rfl)) rfl <| qq (Val.build (cells := #[I (-1), I 0]) rfl (by kernel_rfl)) rfl ?_
      refine WR.eff (Eff.buildC c66 4 sl29 rfl rfl rfl (by simp [Value.cells]) rfl rfl) rfl ?_
      rintro _ w67 ⟨b51, c67, rfl, hM67, hb51⟩
      replace h := h.mv hM67 rfl; replace hb7 := hb7.mv hM67 rfl; replace hx := hx.mv hM67 rfl
      first | refine WR.val (Val.fieldAddr fld31_1 rfl) rfl ?_ | refine WR.val (Val.fieldAddrP fld31_1 rfl) rfl ?_
      refine WR.eff_ ((hx.stId scl3 rfl rfl (i64_within _ _ (by decide) (by decide)))) ?_
      rintro _ w68 ⟨c68, hM68, hx⟩
      replace h := h.mv hM68 rfl; replace hb7 := hb7.mv hM68 rfl; replace hb51 := hb51.mv hM68 rfl
      first | refine WR.val (Val.fieldAddr fld31_5 rfl) rfl ?_ | refine WR.val (Val.fieldAddrP fld31_5 rfl) rfl ?_
      refine WR.eff_ ((hx.stSs scl29 rfl rfl (BlkC.slots (l := [((k : Int) % 4, (k : Int) % 9), (-1, 0)]) hb51 (by simp [Go.Eng.Int64]; omega) (by simp)))) ?_
      rintro _ w69 ⟨c69, hM69, hx⟩
      replace h := h.mv hM69 rfl; replace hb7 := hb7.mv hM69 rfl; replace hb51 := hb51.mv hM69 rfl
      refine cnil <| cseq <| cregion <| qq (Val.move rfl) rfl <| qq (Val.eql rfl rfl) rfl <| cnil ?_
      refine WC.cond rfl (fun hc13 => ?_) (fun hc13 => ?_)
      ·try simp only [tstS] at hc13
       refine cregion <| qq (Val.move rfl) rfl ?_
       first | refine WR.val (Val.fieldAddr fld31_1 rfl) rfl ?_ | refine WR.val (Val.fieldAddrP fld31_1 rfl) rfl ?_
       refine qq (Val.loadB scl3 rfl hb7.blk rfl) rfl ?_
       refine WR.eff (Eff.pureC c69 1 (Eff.call pf27 rfl (within_ok _ _ i2 (by decide) (by decide)))) rfl ?_
       rintro v59 w70 ⟨c70, hM70, hx70, rfl⟩
       replace h := h.mv hM70 rfl; replace hb7 := hb7.mv hM70 rfl; replace hx := hx.mv hM70 rfl
       refine WR.eff (Eff.buildC c70 4 sl24 rfl rfl rfl (by simp [Value.cells]) rfl rfl) rfl ?_
       rintro _ w71 ⟨b60, c71, rfl, hM71, hb60⟩
       replace h := h.mv hM71 rfl; replace hb7 := hb7.mv hM71 rfl; replace hx := hx.mv hM71 rfl
       first | refine WR.val (Val.fieldAddr fld31_4 rfl) rfl ?_ | refine WR.val (Val.fieldAddrP fld31_4 rfl) rfl ?_
       refine WR.eff_ ((hx.stLs scl24 rfl rfl (BlkC.ints (l := [(k : Int), within R[k].id 99]) hb60 (by simp; exact ⟨⟨by omega, by omega⟩, i64_within _ _ (by decide) (by decide)⟩) (by simp)))) ?_
       rintro _ w72 ⟨c72, hM72, hx⟩
       replace h := h.mv hM72 rfl; replace hb7 := hb7.mv hM72 rfl; replace hb60 := hb60.mv hM72 rfl
       refine cnil ?_
       exact ⟨_, _, _, _, _, _, _, _, (by repeat (first | exact Sub.nil _ | refine Sub.cons rfl ?_)), h, hb7, hx⟩
      ·try simp only [tstS] at hc13
       refine cskip ?_
       exact ⟨_, _, _, _, _, _, _, _, (by repeat (first | exact Sub.nil _ | refine Sub.cons rfl ?_)), h, hb7, hx⟩
     ·try simp only [tstS] at hc11
      refine cseq <| cregion <| qq (Val.eql rfl rfl) rfl <| qq (Val.assign rfl) rfl <| cnil ?_
      refine WC.cond rfl (fun hc15 => ?_) (fun hc15 => ?_)
      ·try simp only [tstS] at hc15
       refine cregion ?_
       first | refine WR.val (Val.fieldAddr fld31_1 rfl) rfl ?_ | refine WR.val (Val.fieldAddrP fld31_1 rfl) rfl ?_
       refine qq (Val.loadB scl3 rfl hb7.blk rfl) rfl ?_
       refine WR.eff (Eff.pureC c9 1 (Eff.call pf27 rfl (within_ok _ _ i2 (by decide) (by decide)))) rfl ?_
       rintro v66 w73 ⟨c73, hM73, hx73, rfl⟩
       replace h := h.mv hM73 rfl; replace hb7 := hb7.mv hM73 rfl; replace hx := hx.mv hM73 rfl
       first | refine WR.val (Val.fieldAddr fld31_1 rfl) rfl ?_ | refine WR.val (Val.fieldAddrP fld31_1 rfl) rfl ?_
       refine WR.eff_ ((hx.stId scl3 rfl rfl (i64_within _ _ (by decide) (by decide)))) ?_
       rintro _ w74 ⟨c74, hM74, hx⟩
       replace h := h.mv hM74 rfl; replace hb7 := hb7.mv hM74 rfl
       refine cnil ?_
       exact ⟨_, _, _, _, _, _, _, _, (by repeat (first | exact Sub.nil _ | refine Sub.cons rfl ?_)), h, hb7, hx⟩
      ·try simp only [tstS] at hc15
       refine cseq <| cseq <| cregion <| qq (Val.eql rfl rfl) rfl <| qq (Val.assign rfl) rfl <| cnil ?_
       refine WC.cond rfl (fun hc17 => ?_) (fun hc17 => ?_)
       ·try simp only [tstS] at hc17
        refine cskip ?_
        refine WC.cond rfl (fun hc17 => ?_) (fun hc17 => ?_)
        ·try simp only [tstS] at hc17
         refine WC.mono (N := fun e w' => ∃ c' id nm dg vl vs l sl, Sub [(1, I K), (2, .pointer (some ⟨b2, 0, none⟩)), (4, .pointer (some ⟨b4, 0, none⟩)), (5, .pointer (some ⟨b5, 0, none⟩)), (6, I k), (7, .pointer (some ⟨b7, 0, none⟩)), (9, .pointer (some ⟨b9, 0, none⟩))] e ∧ KS w c' w' b2 b4 b5 vR vS vN vq R css ∧ BlkC c' w' 107 b7 [I R[k].kind, I R[k].id, St R[k].name, St R[k].digest, vl1, vs1] kRec ∧ KX c' w' b9 K id nm dg vl vs l sl) ?_ ?_
         ·refine WC.regionT (Kp c9 w10 [109]) [0, 1, 2, 0, 0, 0, 0, 0, 2, 0, 3, 0, 3, 0, 3] (.quiet 0 (.quiet 1 (.quiet 3 (.quiet 4 (.quiet 5 (.quiet 6 (.quiet 7 (.two 2 (.quiet 9 (.two 8 (.one 10 (.quiet 11 (.one 12 (.quiet 13 (.one 14 .nil))))) 10 (.quiet 11 (.two 8 (.one 12 (.quiet 13 (.one 14 .nil))) 12 (.one 8 (.quiet 13 (.one 14 .nil))))))) 8 (.one 2 (.quiet 9 (.one 10 (.quiet 11 (.one 12 (.quiet 13 (.one 14 .nil))))))))))))))) mixed (by kernel_rfl) ?_
          have hM75 := Mv.drew c9 w10 []
          have hCw := Mv.drew c9 w10 [109]
          generalize w10.drew = w75 at hM75 hCw ⊢
          have h0 := h
          have hb70 := hb7
          replace h := h.mv hM75 rfl; replace hb7 := hb7.mv hM75 rfl; replace hx := hx.mv hM75 rfl
          first | refine WT.val rfl rfl rfl (fun _ => Val.fieldAddr fld31_1 rfl) rfl ?_ | refine WT.val rfl rfl rfl (fun _ => Val.fieldAddrP fld31_1 rfl) rfl ?_
          refine WT.valC rfl rfl rfl hCw.kp (fun W hW => Val.loadB scl3 rfl (hb70.kp hW rfl).blk rfl) rfl ?_
          refine WT.val rfl rfl rfl (fun _ => Val.move rfl) rfl ?_
          refine WT.val rfl rfl rfl (fun _ => Val.ssliceTo Try.underlying9 rfl rfl (by first | omega | assumption | (simp; omega)) (by first | omega | assumption | (simp; omega))) rfl ?_
          refine WT.val rfl rfl rfl (fun _ => Val.move rfl) rfl ?_
          refine WT.val rfl rfl rfl (fun _ => Val.move rfl) rfl ?_
          refine WT.val rfl rfl rfl (fun _ => Val.mulI rfl rfl (by first | omega | assumption | (simp; omega)) (by first | omega | assumption | (simp; omega))) rfl ?_
          refine WT.two ?_ ?_
          ·refine WS.eff rfl rfl rfl (Eff.pureC c9 1 (Eff.call pf27 rfl (within_ok _ _ i2 (by decide) (by decide)))) rfl ?_
           rintro v73 w76 ⟨c76, hM76, hx76, rfl⟩
           refine ⟨fun hC => hC.step hCw hM76 rfl, ?_⟩
           replace hCw := hCw.tr hM76 rfl
           replace h := h.mv hM76 rfl; replace hb7 := hb7.mv hM76 rfl; replace hx := hx.mv hM76 rfl
           first | refine WT.val rfl rfl rfl (fun _ => Val.fieldAddr fld31_1 rfl) rfl ?_ | refine WT.val rfl rfl rfl (fun _ => Val.fieldAddrP fld31_1 rfl) rfl ?_
           refine WT.two ?_ ?_
           ·refine WS.eff rfl rfl rfl (Eff.buildC c76 4 sl24 rfl rfl rfl (by simp [Value.cells]) rfl rfl) rfl ?_
            rintro _ w77 ⟨b79, c77, rfl, hM77, hb79⟩
            refine ⟨fun hC => hC.step hCw hM77 rfl, ?_⟩
            replace hCw := hCw.tr hM77 rfl
            replace h := h.mv hM77 rfl; replace hb7 := hb7.mv hM77 rfl; replace hx := hx.mv hM77 rfl
            refine WT.one ?_
            refine WS.wild rfl rfl rfl ((hx.stId scl3 rfl rfl (i64_within _ _ (by decide) (by decide)))) ?_
            rintro _ w78 ⟨c78, hM78, hx⟩
            replace hCw := hCw.tr hM78 rfl
            replace h := h.mv hM78 rfl; replace hb7 := hb7.mv hM78 rfl; replace hb79 := hb79.mv hM78 rfl
            first | refine WT.val rfl rfl rfl (fun _ => Val.fieldAddr fld31_3 rfl) rfl ?_ | refine WT.val rfl rfl rfl (fun _ => Val.fieldAddrP fld31_3 rfl) rfl ?_
            refine WT.one ?_
            refine WS.wild rfl rfl rfl ((hx.stDg scl9 rfl rfl (by simp; omega))) ?_
            rintro _ w79 ⟨c79, hM79, hx⟩
            replace hCw := hCw.tr hM79 rfl
            replace h := h.mv hM79 rfl; replace hb7 := hb7.mv hM79 rfl; replace hb79 := hb79.mv hM79 rfl
            first | refine WT.val rfl rfl rfl (fun _ => Val.fieldAddr fld31_4 rfl) rfl ?_ | refine WT.val rfl rfl rfl (fun _ => Val.fieldAddrP fld31_4 rfl) rfl ?_
            refine WT.one ?_
            refine WS.wild rfl rfl rfl ((hx.stLs scl24 rfl rfl (BlkC.ints (l := [(k : Int), 5, 7 * (k : Int)]) hb79 (by simp [Go.Eng.Int64]; omega) (by simp)))) ?_
            rintro _ w80 ⟨c80, hM80, hx⟩
            replace hCw := hCw.tr hM80 rfl
            replace h := h.mv hM80 rfl; replace hb7 := hb7.mv hM80 rfl; replace hb79 := hb79.mv hM80 rfl
            refine WT.nil ?_
            exact ⟨_, _, _, _, _, _, _, _, (by repeat (first | exact Sub.nil _ | refine Sub.cons rfl ?_)), h, hb7, hx⟩
           ·refine WS.wild rfl rfl rfl ((hx.stId scl3 rfl rfl (i64_within _ _ (by decide) (by decide)))) ?_
            rintro _ w81 ⟨c81, hM81, hx⟩
            replace hCw := hCw.tr hM81 rfl
            replace h := h.mv hM81 rfl; replace hb7 := hb7.mv hM81 rfl
            first | refine WT.val rfl rfl rfl (fun _ => Val.fieldAddr fld31_3 rfl) rfl ?_ | refine WT.val rfl rfl rfl (fun _ => Val.fieldAddrP fld31_3 rfl) rfl ?_
            refine WT.two ?_ ?_
            ·refine WS.eff rfl rfl rfl (Eff.buildC c81 4 sl24 rfl rfl rfl (by simp [Value.cells]) rfl rfl) rfl ?_
             rintro _ w82 ⟨b79, c82, rfl, hM82, hb79⟩
             refine ⟨fun hC => hC.step hCw hM82 rfl, ?_⟩
             replace hCw := hCw.tr hM82 rfl
             replace h := h.mv hM82 rfl; replace hb7 := hb7.mv hM82 rfl; replace hx := hx.mv hM82 rfl
             refine WT.one ?_
             refine WS.wild rfl rfl rfl ((hx.stDg scl9 rfl rfl (by simp; omega))) ?_
             rintro _ w83 ⟨c83, hM83, hx⟩
             replace hCw := hCw.tr hM83 rfl
             replace h := h.mv hM83 rfl; replace hb7 := hb7.mv hM83 rfl; replace hb79 := hb79.mv hM83 rfl
             first | refine WT.val rfl rfl rfl (fun _ => Val.fieldAddr fld31_4 rfl) rfl ?_ | refine WT.val rfl rfl rfl (fun _ => Val.fieldAddrP fld31_4 rfl) rfl ?_
             refine WT.one ?_
             refine WS.wild rfl rfl rfl ((hx.stLs scl24 rfl rfl (BlkC.ints (l := [(k : Int), 5, 7 * (k : Int)]) hb79 (by simp [Go.Eng.Int64]; omega) (by simp)))) ?_
             rintro _ w84 ⟨c84, hM84, hx⟩
             replace hCw := hCw.tr hM84 rfl
             replace h := h.mv hM84 rfl; replace hb7 := hb7.mv hM84 rfl; replace hb79 := hb79.mv hM84 rfl
             refine WT.nil ?_
             exact ⟨_, _, _, _, _, _, _, _, (by repeat (first | exact Sub.nil _ | refine Sub.cons rfl ?_)), h, hb7, hx⟩
            ·refine WS.wild rfl rfl rfl ((hx.stDg scl9 rfl rfl (by simp; omega))) ?_
             rintro _ w85 ⟨c85, hM85, hx⟩
             replace hCw := hCw.tr hM85 rfl
             replace h := h.mv hM85 rfl; replace hb7 := hb7.mv hM85 rfl
             refine WT.one ?_
             refine WS.eff rfl rfl rfl (Eff.buildC c85 4 sl24 rfl rfl rfl (by simp [Value.cells]) rfl rfl) rfl ?_
             rintro _ w86 ⟨b79, c86, rfl, hM86, hb79⟩
             refine ⟨fun hC => hC.step hCw hM86 rfl, ?_⟩
             replace hCw := hCw.tr hM86 rfl
             replace h := h.mv hM86 rfl; replace hb7 := hb7.mv hM86 rfl; replace hx := hx.mv hM86 rfl
             first | refine WT.val rfl rfl rfl (fun _ => Val.fieldAddr fld31_4 rfl) rfl ?_ | refine WT.val rfl rfl rfl (fun _ => Val.fieldAddrP fld31_4 rfl) rfl ?_
             refine WT.one ?_
             refine WS.wild rfl rfl rfl ((hx.stLs scl24 rfl rfl (BlkC.ints (l := [(k : Int), 5, 7 * (k : Int)]) hb79 (by simp [Go.Eng.Int64]; omega) (by simp)))) ?_
             rintro _ w87 ⟨c87, hM87, hx⟩
             replace hCw := hCw.tr hM87 rfl
             replace h := h.mv hM87 rfl; replace hb7 := hb7.mv hM87 rfl; replace hb79 := hb79.mv hM87 rfl
             refine WT.nil ?_
             exact ⟨_, _, _, _, _, _, _, _, (by repeat (first | exact Sub.nil _ | refine Sub.cons rfl ?_)), h, hb7, hx⟩
          ·refine WS.eff rfl rfl rfl (Eff.buildC c9 4 sl24 rfl rfl rfl (by simp [Value.cells]) rfl rfl) rfl ?_
           rintro _ w88 ⟨b79, c88, rfl, hM88, hb79⟩
           refine ⟨fun hC => hC.step hCw hM88 rfl, ?_⟩
           replace hCw := hCw.tr hM88 rfl
           replace h := h.mv hM88 rfl; replace hb7 := hb7.mv hM88 rfl; replace hx := hx.mv hM88 rfl
           refine WT.one ?_
           refine WS.eff rfl rfl rfl (Eff.pureC c88 1 (Eff.call pf27 rfl (within_ok _ _ i2 (by decide) (by decide)))) rfl ?_
           rintro v73 w89 ⟨c89, hM89, hx89, rfl⟩
           refine ⟨fun hC => hC.step hCw hM89 rfl, ?_⟩
           replace hCw := hCw.tr hM89 rfl
           replace h := h.mv hM89 rfl; replace hb7 := hb7.mv hM89 rfl; replace hx := hx.mv hM89 rfl; replace hb79 := hb79.mv hM89 rfl
           first | refine WT.val rfl rfl rfl (fun _ => Val.fieldAddr fld31_1 rfl) rfl ?_ | refine WT.val rfl rfl rfl (fun _ => Val.fieldAddrP fld31_1 rfl) rfl ?_
           refine WT.one ?_
           refine WS.wild rfl rfl rfl ((hx.stId scl3 rfl rfl (i64_within _ _ (by decide) (by decide)))) ?_
           rintro _ w90 ⟨c90, hM90, hx⟩
           replace hCw := hCw.tr hM90 rfl
           replace h := h.mv hM90 rfl; replace hb7 := hb7.mv hM90 rfl; replace hb79 := hb79.mv hM90 rfl
           first | refine WT.val rfl rfl rfl (fun _ => Val.fieldAddr fld31_3 rfl) rfl ?_ | refine WT.val rfl rfl rfl (fun _ => Val.fieldAddrP fld31_3 rfl) rfl ?_
           refine WT.one ?_
           refine WS.wild rfl rfl rfl ((hx.stDg scl9 rfl rfl (by simp; omega))) ?_
           rintro _ w91 ⟨c91, hM91, hx⟩
           replace hCw := hCw.tr hM91 rfl
           replace h := h.mv hM91 rfl; replace hb7 := hb7.mv hM91 rfl; replace hb79 := hb79.mv hM91 rfl
           first | refine WT.val rfl rfl rfl (fun _ => Val.fieldAddr fld31_4 rfl) rfl ?_ | refine WT.val rfl rfl rfl (fun _ => Val.fieldAddrP fld31_4 rfl) rfl ?_
           refine WT.one ?_
           refine WS.wild rfl rfl rfl ((hx.stLs scl24 rfl rfl (BlkC.ints (l := [(k : Int), 5, 7 * (k : Int)]) hb79 (by simp [Go.Eng.Int64]; omega) (by simp)))) ?_
           rintro _ w92 ⟨c92, hM92, hx⟩
           replace hCw := hCw.tr hM92 rfl
           replace h := h.mv hM92 rfl; replace hb7 := hb7.mv hM92 rfl; replace hb79 := hb79.mv hM92 rfl
           refine WT.nil ?_
           exact ⟨_, _, _, _, _, _, _, _, (by repeat (first | exact Sub.nil _ | refine Sub.cons rfl ?_)), h, hb7, hx⟩
         ·skip
          rintro e9 w9 ⟨c9, id9, nm9, dg9, vl9, vs9, l9, sl9, hsub, h, hb7, hx⟩
          exact ⟨_, _, _, _, _, _, _, _, hsub, h, hb7, hx⟩
        ·try simp only [tstS] at hc17
         refine cseq <| cregion <| qq (Val.eql rfl rfl) rfl <| qq (Val.assign rfl) rfl <| cnil ?_
         refine WC.cond rfl (fun hc20 => ?_) (fun hc20 => ?_)
         ·try simp only [tstS] at hc20
          refine cregion <| qq (Val.move rfl) rfl <| qq (Val.ssliceTo Try.underlying9 rfl rfl (by first | omega | assumption | (simp; omega)) (by first | omega | assumption | (simp; omega))) rfl ?_
          first | refine WR.val (Val.fieldAddr fld31_3 rfl) rfl ?_ | refine WR.val (Val.fieldAddrP fld31_3 rfl) rfl ?_
          refine WR.eff_ ((hx.stDg scl9 rfl rfl (by simp; omega))) ?_
          rintro _ w93 ⟨c93, hM93, hx⟩
          replace h := h.mv hM93 rfl; replace hb7 := hb7.mv hM93 rfl
          refine cnil ?_
          exact ⟨_, _, _, _, _, _, _, _, (by repeat (first | exact Sub.nil _ | refine Sub.cons rfl ?_)), h, hb7, hx⟩
         ·try simp only [tstS] at hc20
          refine cseq <| cregion <| qq (Val.eql rfl rfl) rfl <| qq (Val.assign rfl) rfl <| cnil ?_
          refine WC.cond rfl (fun hc22 => ?_) (fun hc22 => ?_)
          ·try simp only [tstS] at hc22
           refine WC.regionD (Kp c9 w10 []) [0, 1, 0, 0, 0, 0, 3, 0, 3] [0, 1, 2, 3, 4, 5, 6, 7, 8] mixed (by kernel_rfl) ?_
           have hM94 := Mv.drew c9 w10 []
           have hCw := Mv.drew c9 w10 []
           generalize w10.drew = w94 at hM94 hCw ⊢
           have hb70 := hb7
           replace h := h.mv hM94 rfl; replace hb7 := hb7.mv hM94 rfl; replace hx := hx.mv hM94 rfl
           first | refine WD.val rfl rfl rfl (fun _ => Val.fieldAddr fld31_2 rfl) rfl ?_ | refine WD.val rfl rfl rfl (fun _ => Val.fieldAddrP fld31_2 rfl) rfl ?_
           refine qc rfl rfl rfl hCw.kp (fun W hW => Val.loadB scl9 rfl (hb70.kp hW rfl).blk rfl) rfl <| qd rfl rfl rfl (fun _ => Val.sadd rfl rfl (by first | omega | assumption | (simp; omega))) rfl <| qd rfl rfl rfl (fun _ => Val.move rfl) rfl <| qd rfl rfl rfl (fun _ => Val.ssliceTo Try.underlying9 rfl rfl (by first | omega | assumption | (simp; omega)) (by first | omega | assumption | (simp; omega))) rfl ?_
           first | refine WD.val rfl rfl rfl (fun _ => Val.fieldAddr fld31_2 rfl) rfl ?_ | refine WD.val rfl rfl rfl (fun _ => Val.fieldAddrP fld31_2 rfl) rfl ?_
           refine WD.wild rfl rfl rfl ((hx.stNm scl9 rfl rfl (by simp; omega))) ?_
           rintro _ w95 ⟨c95, hM95, hx⟩
           replace h := h.mv hM95 rfl; replace hb7 := hb7.mv hM95 rfl
           first | refine WD.val rfl rfl rfl (fun _ => Val.fieldAddr fld31_3 rfl) rfl ?_ | refine WD.val rfl rfl rfl (fun _ => Val.fieldAddrP fld31_3 rfl) rfl ?_
           refine WD.wild rfl rfl rfl ((hx.stDg scl9 rfl rfl (by simp; omega))) ?_
           rintro _ w96 ⟨c96, hM96, hx⟩
           replace h := h.mv hM96 rfl; replace hb7 := hb7.mv hM96 rfl
           refine WD.nil ?_
           clear hb70
           clear hCw
           exact ⟨_, _, _, _, _, _, _, _, (by repeat (first | exact Sub.nil _ | refine Sub.cons rfl ?_)), h, hb7, hx⟩
          ·try simp only [tstS] at hc22
           refine cregion ?_
           first | refine WR.val (Val.fieldAddr fld31_2 rfl) rfl ?_ | refine WR.val (Val.fieldAddrP fld31_2 rfl) rfl ?_
           refine qq (Val.loadB scl9 rfl hb7.blk rfl) rfl <| qq (Val.sadd rfl rfl (by first | omega | assumption | (simp; omega))) rfl ?_
           first | refine WR.val (Val.fieldAddr fld31_2 rfl) rfl ?_ | refine WR.val (Val.fieldAddrP fld31_2 rfl) rfl ?_
           refine WR.eff_ ((hx.stNm scl9 rfl rfl (by simp; omega))) ?_
           rintro _ w97 ⟨c97, hM97, hx⟩
           replace h := h.mv hM97 rfl; replace hb7 := hb7.mv hM97 rfl
           refine cnil ?_
           exact ⟨_, _, _, _, _, _, _, _, (by repeat (first | exact Sub.nil _ | refine Sub.cons rfl ?_)), h, hb7, hx⟩
       ·try simp only [tstS] at hc17
        refine cregion <| qq (Val.eql rfl rfl) rfl <| qq (Val.assign rfl) rfl <| cnil ?_
        refine WC.cond rfl (fun hc18 => ?_) (fun hc18 => ?_)
        ·try simp only [tstS] at hc18
         refine WC.mono (N := fun e w' => ∃ c' id nm dg vl vs l sl, Sub [(1, I K), (2, .pointer (some ⟨b2, 0, none⟩)), (4, .pointer (some ⟨b4, 0, none⟩)), (5, .pointer (some ⟨b5, 0, none⟩)), (6, I k), (7, .pointer (some ⟨b7, 0, none⟩)), (9, .pointer (some ⟨b9, 0, none⟩))] e ∧ KS w c' w' b2 b4 b5 vR vS vN vq R css ∧ BlkC c' w' 107 b7 [I R[k].kind, I R[k].id, St R[k].name, St R[k].digest, vl1, vs1] kRec ∧ KX c' w' b9 K id nm dg vl vs l sl) ?_ ?_
         ·refine WC.regionT (Kp c9 w10 [109]) [0, 1, 2, 0, 0, 0, 0, 0, 2, 0, 3, 0, 3, 0, 3] (.quiet 0 (.quiet 1 (.quiet 3 (.quiet 4 (.quiet 5 (.quiet 6 (.quiet 7 (.two 2 (.quiet 9 (.two 8 (.one 10 (.quiet 11 (.one 12 (.quiet 13 (.one 14 .nil))))) 10 (.quiet 11 (.two 8 (.one 12 (.quiet 13 (.one 14 .nil))) 12 (.one 8 (.quiet 13 (.one 14 .nil))))))) 8 (.one 2 (.quiet 9 (.one 10 (.quiet 11 (.one 12 (.quiet 13 (.one 14 .nil))))))))))))))) mixed (by kernel_rfl) ?_
          have hM98 := Mv.drew c9 w10 []
          have hCw := Mv.drew c9 w10 [109]
          generalize w10.drew = w98 at hM98 hCw ⊢
          have h0 := h
          have hb70 := hb7
          replace h := h.mv hM98 rfl; replace hb7 := hb7.mv hM98 rfl; replace hx := hx.mv hM98 rfl
          first | refine WT.val rfl rfl rfl (fun _ => Val.fieldAddr fld31_1 rfl) rfl ?_ | refine WT.val rfl rfl rfl (fun _ => Val.fieldAddrP fld31_1 rfl) rfl ?_
          refine WT.valC rfl rfl rfl hCw.kp (fun W hW => Val.loadB scl3 rfl (hb70.kp hW rfl).blk rfl) rfl ?_
          refine WT.val rfl rfl rfl (fun _ => Val.move rfl) rfl ?_
          refine WT.val rfl rfl rfl (fun _ => Val.ssliceTo Try.underlying9 rfl rfl (by first | omega | assumption | (simp; omega)) (by first | omega | assumption | (simp; omega))) rfl ?_
          refine WT.val rfl rfl rfl (fun _ => Val.move rfl) rfl ?_
          refine WT.val rfl rfl rfl (fun _ => Val.move rfl) rfl ?_
          refine WT.val rfl rfl rfl (fun _ => Val.mulI rfl rfl (by first | omega | assumption | (simp; omega)) (by first | omega | assumption | (simp; omega))) rfl ?_
          refine WT.two ?_ ?_
          ·refine WS.eff rfl rfl rfl (Eff.pureC c9 1 (Eff.call pf27 rfl (within_ok _ _ i2 (by decide) (by decide)))) rfl ?_
           rintro v73 w99 ⟨c99, hM99, hx99, rfl⟩
           refine ⟨fun hC => hC.step hCw hM99 rfl, ?_⟩
           replace hCw := hCw.tr hM99 rfl
           replace h := h.mv hM99 rfl; replace hb7 := hb7.mv hM99 rfl; replace hx := hx.mv hM99 rfl
           first | refine WT.val rfl rfl rfl (fun _ => Val.fieldAddr fld31_1 rfl) rfl ?_ | refine WT.val rfl rfl rfl (fun _ => Val.fieldAddrP fld31_1 rfl) rfl ?_
           refine WT.two ?_ ?_
           ·refine WS.eff rfl rfl rfl (Eff.buildC c99 4 sl24 rfl rfl rfl (by simp [Value.cells]) rfl rfl) rfl ?_
            rintro _ w100 ⟨b79, c100, rfl, hM100, hb79⟩
            refine ⟨fun hC => hC.step hCw hM100 rfl, ?_⟩
            replace hCw := hCw.tr hM100 rfl
            replace h := h.mv hM100 rfl; replace hb7 := hb7.mv hM100 rfl; replace hx := hx.mv hM100 rfl
            refine WT.one ?_
            refine WS.wild rfl rfl rfl ((hx.stId scl3 rfl rfl (i64_within _ _ (by decide) (by decide)))) ?_
            rintro _ w101 ⟨c101, hM101, hx⟩
            replace hCw := hCw.tr hM101 rfl
            replace h := h.mv hM101 rfl; replace hb7 := hb7.mv hM101 rfl; replace hb79 := hb79.mv hM101 rfl
            first | refine WT.val rfl rfl rfl (fun _ => Val.fieldAddr fld31_3 rfl) rfl ?_ | refine WT.val rfl rfl rfl (fun _ => Val.fieldAddrP fld31_3 rfl) rfl ?_
            refine WT.one ?_
            refine WS.wild rfl rfl rfl ((hx.stDg scl9 rfl rfl (by simp; omega))) ?_
            rintro _ w102 ⟨c102, hM102, hx⟩
            replace hCw := hCw.tr hM102 rfl
            replace h := h.mv hM102 rfl; replace hb7 := hb7.mv hM102 rfl; replace hb79 := hb79.mv hM102 rfl
            first | refine WT.val rfl rfl rfl (fun _ => Val.fieldAddr fld31_4 rfl) rfl ?_ | refine WT.val rfl rfl rfl (fun _ => Val.fieldAddrP fld31_4 rfl) rfl ?_
            refine WT.one ?_
            refine WS.wild rfl rfl rfl ((hx.stLs scl24 rfl rfl (BlkC.ints (l := [(k : Int), 5, 7 * (k : Int)]) hb79 (by simp [Go.Eng.Int64]; omega) (by simp)))) ?_
            rintro _ w103 ⟨c103, hM103, hx⟩
            replace hCw := hCw.tr hM103 rfl
            replace h := h.mv hM103 rfl; replace hb7 := hb7.mv hM103 rfl; replace hb79 := hb79.mv hM103 rfl
            refine WT.nil ?_
            exact ⟨_, _, _, _, _, _, _, _, (by repeat (first | exact Sub.nil _ | refine Sub.cons rfl ?_)), h, hb7, hx⟩
           ·refine WS.wild rfl rfl rfl ((hx.stId scl3 rfl rfl (i64_within _ _ (by decide) (by decide)))) ?_
            rintro _ w104 ⟨c104, hM104, hx⟩
            replace hCw := hCw.tr hM104 rfl
            replace h := h.mv hM104 rfl; replace hb7 := hb7.mv hM104 rfl
            first | refine WT.val rfl rfl rfl (fun _ => Val.fieldAddr fld31_3 rfl) rfl ?_ | refine WT.val rfl rfl rfl (fun _ => Val.fieldAddrP fld31_3 rfl) rfl ?_
            refine WT.two ?_ ?_
            ·refine WS.eff rfl rfl rfl (Eff.buildC c104 4 sl24 rfl rfl rfl (by simp [Value.cells]) rfl rfl) rfl ?_
             rintro _ w105 ⟨b79, c105, rfl, hM105, hb79⟩
             refine ⟨fun hC => hC.step hCw hM105 rfl, ?_⟩
             replace hCw := hCw.tr hM105 rfl
             replace h := h.mv hM105 rfl; replace hb7 := hb7.mv hM105 rfl; replace hx := hx.mv hM105 rfl
             refine WT.one ?_
             refine WS.wild rfl rfl rfl ((hx.stDg scl9 rfl rfl (by simp; omega))) ?_
             rintro _ w106 ⟨c106, hM106, hx⟩
             replace hCw := hCw.tr hM106 rfl
             replace h := h.mv hM106 rfl; replace hb7 := hb7.mv hM106 rfl; replace hb79 := hb79.mv hM106 rfl
             first | refine WT.val rfl rfl rfl (fun _ => Val.fieldAddr fld31_4 rfl) rfl ?_ | refine WT.val rfl rfl rfl (fun _ => Val.fieldAddrP fld31_4 rfl) rfl ?_
             refine WT.one ?_
             refine WS.wild rfl rfl rfl ((hx.stLs scl24 rfl rfl (BlkC.ints (l := [(k : Int), 5, 7 * (k : Int)]) hb79 (by simp [Go.Eng.Int64]; omega) (by simp)))) ?_
             rintro _ w107 ⟨c107, hM107, hx⟩
             replace hCw := hCw.tr hM107 rfl
             replace h := h.mv hM107 rfl; replace hb7 := hb7.mv hM107 rfl; replace hb79 := hb79.mv hM107 rfl
             refine WT.nil ?_
             exact ⟨_, _, _, _, _, _, _, _, (by repeat (first | exact Sub.nil _ | refine Sub.cons rfl ?_)), h, hb7, hx⟩
            ·refine WS.wild rfl rfl rfl ((hx.stDg scl9 rfl rfl (by simp; omega))) ?_
             rintro _ w108 ⟨c108, hM108, hx⟩
             replace hCw := hCw.tr hM108 rfl
             replace h := h.mv hM108 rfl; replace hb7 := hb7.mv hM108 rfl
             refine WT.one ?_
             refine WS.eff rfl rfl rfl (Eff.buildC c108 4 sl24 rfl rfl rfl (by simp [Value.cells]) rfl rfl) rfl ?_
             rintro _ w109 ⟨b79, c109, rfl, hM109, hb79⟩
             refine ⟨fun hC => hC.step hCw hM109 rfl, ?_⟩
             replace hCw := hCw.tr hM109 rfl
             replace h := h.mv hM109 rfl; replace hb7 := hb7.mv hM109 rfl; replace hx := hx.mv hM109 rfl
             first | refine WT.val rfl rfl rfl (fun _ => Val.fieldAddr fld31_4 rfl) rfl ?_ | refine WT.val rfl rfl rfl (fun _ => Val.fieldAddrP fld31_4 rfl) rfl ?_
             refine WT.one ?_
             refine WS.wild rfl rfl rfl ((hx.stLs scl24 rfl rfl (BlkC.ints (l := [(k : Int), 5, 7 * (k : Int)]) hb79 (by simp [Go.Eng.Int64]; omega) (by simp)))) ?_
             rintro _ w110 ⟨c110, hM110, hx⟩
             replace hCw := hCw.tr hM110 rfl
             replace h := h.mv hM110 rfl; replace hb7 := hb7.mv hM110 rfl; replace hb79 := hb79.mv hM110 rfl
             refine WT.nil ?_
             exact ⟨_, _, _, _, _, _, _, _, (by repeat (first | exact Sub.nil _ | refine Sub.cons rfl ?_)), h, hb7, hx⟩
          ·refine WS.eff rfl rfl rfl (Eff.buildC c9 4 sl24 rfl rfl rfl (by simp [Value.cells]) rfl rfl) rfl ?_
           rintro _ w111 ⟨b79, c111, rfl, hM111, hb79⟩
           refine ⟨fun hC => hC.step hCw hM111 rfl, ?_⟩
           replace hCw := hCw.tr hM111 rfl
           replace h := h.mv hM111 rfl; replace hb7 := hb7.mv hM111 rfl; replace hx := hx.mv hM111 rfl
           refine WT.one ?_
           refine WS.eff rfl rfl rfl (Eff.pureC c111 1 (Eff.call pf27 rfl (within_ok _ _ i2 (by decide) (by decide)))) rfl ?_
           rintro v73 w112 ⟨c112, hM112, hx112, rfl⟩
           refine ⟨fun hC => hC.step hCw hM112 rfl, ?_⟩
           replace hCw := hCw.tr hM112 rfl
           replace h := h.mv hM112 rfl; replace hb7 := hb7.mv hM112 rfl; replace hx := hx.mv hM112 rfl; replace hb79 := hb79.mv hM112 rfl
           first | refine WT.val rfl rfl rfl (fun _ => Val.fieldAddr fld31_1 rfl) rfl ?_ | refine WT.val rfl rfl rfl (fun _ => Val.fieldAddrP fld31_1 rfl) rfl ?_
           refine WT.one ?_
           refine WS.wild rfl rfl rfl ((hx.stId scl3 rfl rfl (i64_within _ _ (by decide) (by decide)))) ?_
           rintro _ w113 ⟨c113, hM113, hx⟩
           replace hCw := hCw.tr hM113 rfl
           replace h := h.mv hM113 rfl; replace hb7 := hb7.mv hM113 rfl; replace hb79 := hb79.mv hM113 rfl
           first | refine WT.val rfl rfl rfl (fun _ => Val.fieldAddr fld31_3 rfl) rfl ?_ | refine WT.val rfl rfl rfl (fun _ => Val.fieldAddrP fld31_3 rfl) rfl ?_
           refine WT.one ?_
           refine WS.wild rfl rfl rfl ((hx.stDg scl9 rfl rfl (by simp; omega))) ?_
           rintro _ w114 ⟨c114, hM114, hx⟩
           replace hCw := hCw.tr hM114 rfl
           replace h := h.mv hM114 rfl; replace hb7 := hb7.mv hM114 rfl; replace hb79 := hb79.mv hM114 rfl
           first | refine WT.val rfl rfl rfl (fun _ => Val.fieldAddr fld31_4 rfl) rfl ?_ | refine WT.val rfl rfl rfl (fun _ => Val.fieldAddrP fld31_4 rfl) rfl ?_
           refine WT.one ?_
           refine WS.wild rfl rfl rfl ((hx.stLs scl24 rfl rfl (BlkC.ints (l := [(k : Int), 5, 7 * (k : Int)]) hb79 (by simp [Go.Eng.Int64]; omega) (by simp)))) ?_
           rintro _ w115 ⟨c115, hM115, hx⟩
           replace hCw := hCw.tr hM115 rfl
           replace h := h.mv hM115 rfl; replace hb7 := hb7.mv hM115 rfl; replace hb79 := hb79.mv hM115 rfl
           refine WT.nil ?_
           exact ⟨_, _, _, _, _, _, _, _, (by repeat (first | exact Sub.nil _ | refine Sub.cons rfl ?_)), h, hb7, hx⟩
         ·skip
          rintro e9 w9 ⟨c9, id9, nm9, dg9, vl9, vs9, l9, sl9, hsub, h, hb7, hx⟩
          exact ⟨_, _, _, _, _, _, _, _, hsub, h, hb7, hx⟩
        ·try simp only [tstS] at hc18
         refine cseq <| cregion <| qq (Val.eql rfl rfl) rfl <| qq (Val.assign rfl) rfl <| cnil ?_
         refine WC.cond rfl (fun hc20 => ?_) (fun hc20 => ?_)
         ·try simp only [tstS] at hc20
          refine cregion <| qq (Val.move rfl) rfl <| qq (Val.ssliceTo Try.underlying9 rfl rfl (by first | omega | assumption | (simp; omega)) (by first | omega | assumption | (simp; omega))) rfl ?_
          first | refine WR.val (Val.fieldAddr fld31_3 rfl) rfl ?_ | refine WR.val (Val.fieldAddrP fld31_3 rfl) rfl ?_
          refine WR.eff_ ((hx.stDg scl9 rfl rfl (by simp; omega))) ?_
          rintro _ w116 ⟨c116, hM116, hx⟩
          replace h := h.mv hM116 rfl; replace hb7 := hb7.mv hM116 rfl
          refine cnil ?_
          exact ⟨_, _, _, _, _, _, _, _, (by repeat (first | exact Sub.nil _ | refine Sub.cons rfl ?_)), h, hb7, hx⟩
         ·try simp only [tstS] at hc20
          refine cseq <| cregion <| qq (Val.eql rfl rfl) rfl <| qq (Val.assign rfl) rfl <| cnil ?_
          refine WC.cond rfl (fun hc22 => ?_) (fun hc22 => ?_)
          ·try simp only [tstS] at hc22
           refine WC.regionD (Kp c9 w10 []) [0, 1, 0, 0, 0, 0, 3, 0, 3] [0, 1, 2, 3, 4, 5, 6, 7, 8] mixed (by kernel_rfl) ?_
           have hM117 := Mv.drew c9 w10 []
           have hCw := Mv.drew c9 w10 []
           generalize w10.drew = w117 at hM117 hCw ⊢
           have hb70 := hb7
           replace h := h.mv hM117 rfl; replace hb7 := hb7.mv hM117 rfl; replace hx := hx.mv hM117 rfl
           first | refine WD.val rfl rfl rfl (fun _ => Val.fieldAddr fld31_2 rfl) rfl ?_ | refine WD.val rfl rfl rfl (fun _ => Val.fieldAddrP fld31_2 rfl) rfl ?_
           refine qc rfl rfl rfl hCw.kp (fun W hW => Val.loadB scl9 rfl (hb70.kp hW rfl).blk rfl) rfl <| qd rfl rfl rfl (fun _ => Val.sadd rfl rfl (by first | omega | assumption | (simp; omega))) rfl <| qd rfl rfl rfl (fun _ => Val.move rfl) rfl <| qd rfl rfl rfl (fun _ => Val.ssliceTo Try.underlying9 rfl rfl (by first | omega | assumption | (simp; omega)) (by first | omega | assumption | (simp; omega))) rfl ?_
           first | refine WD.val rfl rfl rfl (fun _ => Val.fieldAddr fld31_2 rfl) rfl ?_ | refine WD.val rfl rfl rfl (fun _ => Val.fieldAddrP fld31_2 rfl) rfl ?_
           refine WD.wild rfl rfl rfl ((hx.stNm scl9 rfl rfl (by simp; omega))) ?_
           rintro _ w118 ⟨c118, hM118, hx⟩
           replace h := h.mv hM118 rfl; replace hb7 := hb7.mv hM118 rfl
           first | refine WD.val rfl rfl rfl (fun _ => Val.fieldAddr fld31_3 rfl) rfl ?_ | refine WD.val rfl rfl rfl (fun _ => Val.fieldAddrP fld31_3 rfl) rfl ?_
           refine WD.wild rfl rfl rfl ((hx.stDg scl9 rfl rfl (by simp; omega))) ?_
           rintro _ w119 ⟨c119, hM119, hx⟩
           replace h := h.mv hM119 rfl; replace hb7 := hb7.mv hM119 rfl
           refine WD.nil ?_
           clear hb70
           clear hCw
           exact ⟨_, _, _, _, _, _, _, _, (by repeat (first | exact Sub.nil _ | refine Sub.cons rfl ?_)), h, hb7, hx⟩
          ·try simp only [tstS] at hc22
           refine cregion ?_
           first | refine WR.val (Val.fieldAddr fld31_2 rfl) rfl ?_ | refine WR.val (Val.fieldAddrP fld31_2 rfl) rfl ?_
           refine qq (Val.loadB scl9 rfl hb7.blk rfl) rfl <| qq (Val.sadd rfl rfl (by first | omega | assumption | (simp; omega))) rfl ?_
           first | refine WR.val (Val.fieldAddr fld31_2 rfl) rfl ?_ | refine WR.val (Val.fieldAddrP fld31_2 rfl) rfl ?_
           refine WR.eff_ ((hx.stNm scl9 rfl rfl (by simp; omega))) ?_
           rintro _ w120 ⟨c120, hM120, hx⟩
           replace h := h.mv hM120 rfl; replace hb7 := hb7.mv hM120 rfl
           refine cnil ?_
           exact ⟨_, _, _, _, _, _, _, _, (by repeat (first | exact Sub.nil _ | refine Sub.cons rfl ?_)), h, hb7, hx⟩
   ·skip
    rintro e9 w9 ⟨c9, id9, nm9, dg9, vl9, vs9, l9, sl9, hsub, h, hb7, hx⟩
    refine WC.sub hsub ?_
    clear hsub e9
    have hb9 := hx.B9
    have o3 := hx.ls.now.oneC; have o4 := hx.ss.now.oneC
    refine cseq <| cseq <| cregion <| qq (Val.move rfl) rfl <| qq (Val.remI rfl rfl (by omega) (by omega)) rfl <| qq (Val.eql rfl rfl) rfl <| cnil ?_
    refine WC.cond rfl (fun hc24 => ?_) (fun hc24 => ?_)
    ·try simp only [tstS] at hc24
     refine cregion ?_
     first | refine WR.val (Val.fieldAddr fld31_1 rfl) rfl ?_ | refine WR.val (Val.fieldAddrP fld31_1 rfl) rfl ?_
     refine qq (Val.loadB scl3 rfl hb7.blk rfl) rfl ?_
     first | refine WR.val (Val.fieldAddr fld31_1 rfl) rfl ?_ | refine WR.val (Val.fieldAddrP fld31_1 rfl) rfl ?_
     refine WR.eff_ ((hx.stId scl3 rfl rfl i2)) ?_
     rintro _ w121 ⟨c121, hM121, hx⟩
     replace h := h.mv hM121 rfl; replace hb7 := hb7.mv hM121 rfl
     refine cnil ?_
     have hb9 := hx.B9
     have hrow := h.row
     have hcs := flat6 fun cs hcs => (h.each cs hcs).1
     skip
     refine cregion ?_
     first | refine WR.val (Val.fieldAddr fld26_0 rfl) rfl ?_ | refine WR.val (Val.fieldAddrP fld26_0 rfl) rfl ?_
     refine qq (Val.loadB scl22 rfl h.B5.blk rfl) rfl <| qq (Val.loadBN agg31 rfl hb9.blk rfl) rfl ?_
     refine WR.eff (Eff.build1C c121 206 sl22 rfl rfl rfl rfl rfl) rfl ?_
     rintro _ w122 ⟨b106, c122, rfl, hM122, hb106⟩
     replace h := h.mv hM122 rfl; replace hb7 := hb7.mv hM122 rfl; replace hx := hx.mv hM122 rfl; replace hb9 := hb9.mv hM122 rfl; replace hrow := hrow.mv hM122 rfl
     refine WR.eff (Eff.appendC sl22 rfl rfl hrow (Src.cellsAt Try.underlying22 hb106.blk.cellsAt rfl (by repeat (first | exact List.forall_mem_nil _ | refine List.forall_mem_cons.2 ⟨by first | rfl | assumption, ?_⟩))) (by rw [maxLen_eq]; omega) (by omega)) rfl ?_
     rintro vq' wA ⟨cA, hMA, hO⟩
     have hb5 := h.B5.mv hMA rfl
     have hx' := hx.mv hMA rfl
     have o9 := hO.oneC; have c9 := hO.cellsV
     first | refine WR.val (Val.fieldAddr fld26_0 rfl) rfl ?_ | refine WR.val (Val.fieldAddrP fld26_0 rfl) rfl ?_
     refine WR.eff_ (Eff.storeC scl22 rfl rfl c9 o9 hb5 rfl) ?_
     rintro _ wB ⟨hS, hMB⟩
     have hN := h.app hMA hO rfl ⟨_, hx'.foot⟩ hS hMB
     refine cnil <| cregion <| qq (Val.move rfl) rfl <| qq (Val.addI rfl rfl (by first | omega | assumption | (simp; omega)) (by first | omega | assumption | (simp; omega))) rfl <| qq (Val.assign rfl) rfl <| cnil ?_
     exact ⟨(k + 1, vq', css ++ [_]), (by repeat (first | exact Sub.nil _ | refine Sub.cons rfl ?_)), ⟨cA, hN, by simp; omega, by omega⟩, by simp; omega⟩
    ·try simp only [tstS] at hc24
     refine cskip ?_
     have hb9 := hx.B9
     have hrow := h.row
     have hcs := flat6 fun cs hcs => (h.each cs hcs).1
     skip
     refine cregion ?_
     first | refine WR.val (Val.fieldAddr fld26_0 rfl) rfl ?_ | refine WR.val (Val.fieldAddrP fld26_0 rfl) rfl ?_
     refine qq (Val.loadB scl22 rfl h.B5.blk rfl) rfl <| qq (Val.loadBN agg31 rfl hb9.blk rfl) rfl ?_
     refine WR.eff (Eff.build1C c9 206 sl22 rfl rfl rfl rfl rfl) rfl ?_
     rintro _ w123 ⟨b106, c123, rfl, hM123, hb106⟩
     replace h := h.mv hM123 rfl; replace hb7 := hb7.mv hM123 rfl; replace hx := hx.mv hM123 rfl; replace hb9 := hb9.mv hM123 rfl; replace hrow := hrow.mv hM123 rfl
     refine WR.eff (Eff.appendC sl22 rfl rfl hrow (Src.cellsAt Try.underlying22 hb106.blk.cellsAt rfl (by repeat (first | exact List.forall_mem_nil _ | refine List.forall_mem_cons.2 ⟨by first | rfl | assumption, ?_⟩))) (by rw [maxLen_eq]; omega) (by omega)) rfl ?_
     rintro vq' wA ⟨cA, hMA, hO⟩
     have hb5 := h.B5.mv hMA rfl
     have hx' := hx.mv hMA rfl
     have o9 := hO.oneC; have c9 := hO.cellsV
     first | refine WR.val (Val.fieldAddr fld26_0 rfl) rfl ?_ | refine WR.val (Val.fieldAddrP fld26_0 rfl) rfl ?_
     refine WR.eff_ (Eff.storeC scl22 rfl rfl c9 o9 hb5 rfl) ?_
     rintro _ wB ⟨hS, hMB⟩
     have hN := h.app hMA hO rfl ⟨_, hx'.foot⟩ hS hMB
     refine cnil <| cregion <| qq (Val.move rfl) rfl <| qq (Val.addI rfl rfl (by first | omega | assumption | (simp; omega)) (by first | omega | assumption | (simp; omega))) rfl <| qq (Val.assign rfl) rfl <| cnil ?_
     exact ⟨(k + 1, vq', css ++ [_]), (by repeat (first | exact Sub.nil _ | refine Sub.cons rfl ?_)), ⟨cA, hN, by simp; omega, by omega⟩, by simp; omega⟩
  ·try simp only [tstS] at hc3
   have hb4 := h.B4; have hb5 := h.B5; have hO := h.old; have hrow := h.row
   have oq := h.row.oneC; have hea := h.each
   skip
   refine WC.exit rfl ?_
   refine cseq <| cregion <| qq (Val.loadBN agg26 rfl hb5.blk rfl) rfl ?_
   refine WR.eff_ (Eff.storeNC agg26 rfl rfl hb4 rfl rfl (by repeat (first | exact List.forall_mem_nil _ | refine List.forall_mem_cons.2 ⟨by first | rfl | assumption, ?_⟩))) ?_
   rintro _ w124 ⟨hS, hM124⟩
   replace hO := hO.mv hM124 rfl; replace hb5 := hb5.mv hM124 rfl; replace hrow := hrow.mv hM124 rfl; replace hea := hea.mv hM124 rfl
   replace hb4 := hS
   refine cnil ?_
   refine WC.retR1 rfl (RVal.cellN agg26 rfl hb4.blk rfl) ?_
   obtain ⟨Q, hQ⟩ := hea.rd hrow (by omega)
   exact ⟨hO.below, vq, Q, rfl, hQ⟩
end Go.Proofs.Ythlfolpcmcejkaa
