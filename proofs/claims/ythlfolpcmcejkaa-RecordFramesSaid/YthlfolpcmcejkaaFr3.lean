/- The frames that a text begins with: the page. No condition. -/
import Derived.Test.YthlfolpcmcejkaaFr2
set_option linter.unusedSimpArgs false
set_option linter.unusedVariables false
set_option maxRecDepth 100000
namespace Silo
open Go Go.Eng
theorem takeF_no {u : List UInt8} (h : ¬ 15 ≤ u.length ∨ u.length < 15 + beNat (u.take 3) ∨ 1073741824 < beNat ((u.drop 3).take 4) ∨ takeSpec plain ((u.drop 7).take (beNat (u.take 3))) = none) : takeF u = none := by
  unfold takeF
  split
  · rfl
  · split
    · rfl
    · split
      · cases ht : takeSpec plain ((u.drop 7).take (beNat (u.take 3))) with
        | none => rfl
        | some r =>
          dsimp only
          rw [if_neg]
          rcases h with h | h | h | h
          · omega
          · omega
          · omega
          · rw [ht] at h; cases h
      · rfl
theorem takeF_is {u : List UInt8} {r : Rec} (h1 : 15 + beNat (u.take 3) ≤ u.length) (h2 : beNat ((u.drop 3).take 4) ≤ 1073741824) (h3 : takeSpec plain ((u.drop 7).take (beNat (u.take 3))) = some r) :
    takeF u = if frameS r (beNat ((u.drop 3).take 4) : Nat) = u.take (15 + beNat (u.take 3)) then some (r, beNat ((u.drop 3).take 4), 15 + beNat (u.take 3)) else none := by
  have hs := frame_sum h1 h3
  rw [takeF, if_neg (by omega), if_neg (by omega)]
  by_cases hc : frameS r (beNat ((u.drop 3).take 4) : Nat) = u.take (15 + beNat (u.take 3))
  · rw [if_pos (hs.1 hc), if_pos hc, h3]
    dsimp only
    rw [if_pos h2]
  · rw [if_neg (fun e => hc (hs.2 e)), if_neg hc]
theorem framesG_stop {f : Nat} {u : List UInt8} {l : List Rec} {first bytes : Nat} (h : takeF u = none ∨ (l ≠ [] ∧ beNat ((u.drop 3).take 4) ≠ first + l.length)) : framesG (f + 1) u l first bytes = (l, first, bytes) := by
  unfold framesG
  cases ht : takeF u with
  | none => rfl
  | some x =>
    obtain ⟨r, k, z⟩ := x
    dsimp only
    rcases h with h | ⟨hl, hk⟩
    · rw [ht] at h; cases h
    · have ek : k = beNat ((u.drop 3).take 4) := by
        unfold takeF at ht
        split at ht
        · cases ht
        · split at ht
          · cases ht
          · split at ht
            · cases hq : takeSpec plain ((u.drop 7).take (beNat (u.take 3))) with
              | none => rw [hq] at ht; cases ht
              | some r' =>
                rw [hq] at ht
                dsimp only at ht
                split at ht
                · simp only [Option.some.injEq, Prod.mk.injEq] at ht
                  exact ht.2.1.symm
                · cases ht
            · cases ht
      rw [if_neg]
      rw [if_neg hl, ek]; exact hk
theorem framesG_go {f : Nat} {u : List UInt8} {l : List Rec} {first bytes k z : Nat} {r : Rec} (h : takeF u = some (r, k, z)) (hk : l = [] ∨ k = first + l.length) : framesG (f + 1) u l first bytes = framesG f (u.drop z) (l ++ [r]) (if l = [] then k else first) (bytes + z) := by
  rw [framesG, h]
  dsimp only
  rw [if_pos]
  rcases hk with rfl | e
  · simp
  · by_cases hl : l = []
    · subst hl; simp
    · rw [if_neg hl]; exact e
end Silo
namespace Go.Proofs.Ythlfolpcmcejkaa
open Go Go.Eng Go.RowKit Silo TryT

/-- Records whose lists are one's own, cell by cell. -/
def EachO (c : Nat → Nat) (w : World) (css : List (List Value)) (l : List Rec) : Prop := css.length = l.length ∧ ∀ (k : Nat) cs x, css[k]? = some cs → l[k]? = some x → ∃ vl vs, cs = [I x.kind, I x.id, St x.name, St x.digest, vl, vs] ∧ OwnC c w 5 TI 1 vl x.list.length (flatL x.list) ∧ OwnC c w 5 TSl 2 vs x.slots.length (flatS x.slots) ∧
  (Go.Eng.Int64 x.kind ∧ Go.Eng.Int64 x.id ∧ x.name.length ≤ 140737488355328 ∧ x.digest.length ≤ 140737488355328) ∧ (∀ y ∈ x.list, Go.Eng.Int64 y) ∧ (∀ y ∈ x.slots, Go.Eng.Int64 y.1 ∧ Go.Eng.Int64 y.2) ∧ x.list.length ≤ 140737488355328 ∧ x.slots.length ≤ 140737488355328
theorem EachO.mv {c c' : Nat → Nat} {w w' : World} {I : List Nat} {css : List (List Value)} {l : List Rec} (h : EachO c w css l) (m : Mv c w c' w' I) (hi : hasC I 5 = false := by rfl) : EachO c' w' css l := ⟨h.1, fun k cs x h1 h2 => by
  obtain ⟨vl, vs, e, a, b, r⟩ := h.2 k cs x h1 h2
  exact ⟨vl, vs, e, a.mv m hi, b.mv m hi, r⟩⟩
theorem eachO0 (c : Nat → Nat) (w : World) : EachO c w [] [] := ⟨rfl, fun k cs x h => by simp at h⟩
theorem EachO.snoc {c : Nat → Nat} {w : World} {css : List (List Value)} {l : List Rec} {x : Rec} {vl vs : Value} (h : EachO c w css l) (a : OwnC c w 5 TI 1 vl x.list.length (flatL x.list)) (b : OwnC c w 5 TSl 2 vs x.slots.length (flatS x.slots))
    (r : (Go.Eng.Int64 x.kind ∧ Go.Eng.Int64 x.id ∧ x.name.length ≤ 140737488355328 ∧ x.digest.length ≤ 140737488355328) ∧ (∀ y ∈ x.list, Go.Eng.Int64 y) ∧ (∀ y ∈ x.slots, Go.Eng.Int64 y.1 ∧ Go.Eng.Int64 y.2) ∧ x.list.length ≤ 140737488355328 ∧ x.slots.length ≤ 140737488355328) :
    EachO c w (css ++ [[I x.kind, I x.id, St x.name, St x.digest, vl, vs]]) (l ++ [x]) := by
  refine ⟨by simp [h.1], fun k cs y h1 h2 => ?_⟩
  rcases Nat.lt_trichotomy k css.length with hk | hk | hk
  · rw [List.getElem?_append_left hk] at h1
    rw [List.getElem?_append_left (by rw [← h.1]; exact hk)] at h2
    exact h.2 k cs y h1 h2
  · subst hk
    rw [List.getElem?_append_right (Nat.le_refl _), Nat.sub_self] at h1
    rw [h.1, List.getElem?_append_right (Nat.le_refl _), Nat.sub_self] at h2
    simp only [List.getElem?_cons_zero, Option.some.injEq] at h1 h2
    subst h1; subst h2
    exact ⟨vl, vs, rfl, a, b, r⟩
  · rw [List.getElem?_eq_none (by simp; omega)] at h1; cases h1

set_option maxHeartbeats 2000000 in
theorem qframes_ok {w : World} {s : List UInt8} (hs : s.length ≤ 1073741824) : Calls Try.prog 33 #[St s] w (Ret fun v w' => Below w.heap.size w w' ∧ ∃ c' vl css, v = .tuple #[vl, I ((framesS s).2.1 : Nat), I ((framesS s).2.2 : Nat)] ∧ OwnC c' w' 7 TX 6 vl (framesS s).1.length css.flatten ∧ EachO c' w' css (framesS s).1 ∧ OldC w c' w') := by
  obtain ⟨c, hO, hc⟩ := OldC.start w
  clear hc
  refine enter (n := 96) (res := #[.tmp 2, .tmp 3, .tmp 4]) Try.func33 rfl rfl rfl rfl ?_
  refine cseq <| cg <| za rfl <| za rfl <| za rfl <| cnil <| cseq <| cg <| za rfl ?_
  refine cnil <| cseq <| cg <| za rfl <| za rfl <| cnil <| cseq ?_
  refine WC.mono (N := (fun e w' => ∃ (c' : Nat → Nat) (vl : Value) (css : List (List Value)) (l : List Rec) (first pos : Nat), Sub [(4000000, .tuple #[]), (5, vl), (6, I first), (7, I pos)] e ∧ OldC w c' w' ∧ OwnC c' w' 7 TX 6 vl l.length css.flatten ∧ EachO c' w' css l ∧ framesS s = (l, first, pos))) ?_ ?_
  ·refine cblock ?_
   refine WC.loop (σ := Value × List Rec × Nat × Nat) (fun st => [(0, St s), (5, st.1), (6, I st.2.2.1), (7, I st.2.2.2)]) (fun st w' => ∃ c' css, OldC w c' w' ∧ OwnC c' w' 7 TX 6 st.1 st.2.1.length css.flatten ∧ EachO c' w' css st.2.1 ∧ st.2.2.2 ≤ s.length ∧ st.2.1.length ≤ st.2.2.2 ∧ st.2.2.1 ≤ 1073741824 ∧ framesS s = framesG (s.length - st.2.2.2 + 1) (s.drop st.2.2.2) st.2.1 st.2.2.1 st.2.2.2) (fun st => s.length - st.2.2.2) (.slice none 0 0, [], 0, 0) subs ⟨_, [], hO, OwnC.nil _ _ _ _ _, eachO0 _ _, by simp, by simp, by simp, rfl⟩ ?_
   clear hO
   rintro ⟨vl, l, first, pos⟩ wl ⟨cl, css, hO, ho, he, hp, hlp, hf, hfr⟩
   dsimp only at ho he hp hlp hf hfr ⊢
   obtain ⟨u, hu⟩ : ∃ u, u = s.drop pos := ⟨_, rfl⟩
   have hul : u.length = s.length - pos := by rw [hu, List.length_drop]
   rw [← hu] at hfr
   have p1 := ho.oneC
   refine cseq <| cseq <| cg <| zm rfl <| vq (Val.slen Try.underlying9 rfl) <| zm rfl <| vq (Val.subI rfl rfl side side) <| vq (Val.geq rfl rfl) <| cnil ?_
   refine WC.cond rfl (fun hc3 => ?_) (fun hc3 => ?_)
   ·try simp only [tstS] at hc3
    have h15 : 15 ≤ u.length := by omega
    obtain ⟨n, hn⟩ : ∃ n, n = beNat (u.take 3) := ⟨_, rfl⟩
    obtain ⟨k, hk⟩ : ∃ k, k = beNat ((u.drop 3).take 4) := ⟨_, rfl⟩
    have hn3 := beNat_le3 (l := u.take 3) (by rw [List.length_take]; omega)
    have hk4 := beNat_le4 (l := (u.drop 3).take 4) (by rw [List.length_take]; omega)
    rw [← hn] at hn3
    rw [← hk] at hk4
    refine cskip <| cblock <| cseq <| cg <| zm rfl <| zm rfl <| zm rfl <| vq (Val.addI rfl rfl side side) <| vq (Val.sslice Try.underlying9 rfl rfl rfl (by omega) (by omega) (by omega)) ?_
    rw [Int.toNat_natCast, show ((pos : Int) + 3).toNat - pos = 3 by omega, ← hu]
    refine ve (Eff.pureC cl 1 (Eff.call pf36 rfl (qNumber_ok (u.take 3) (by rw [List.length_take]; omega)))) ?_
    rintro v22 w1 ⟨c1, hM1, hx1, rfl⟩
    replace hO := hO.mv hM1; replace ho := ho.mv hM1; replace he := he.mv hM1
    rw [← hn]
    refine za rfl <| cnil <| cseq <| cg <| zm rfl <| zm rfl <| vq (Val.addI rfl rfl side side) <| zm rfl <| vq (Val.addI rfl rfl side side) ?_
    refine vq (Val.sslice Try.underlying9 rfl rfl rfl (by omega) (by omega) (by omega)) ?_
    rw [show ((pos : Int) + 3).toNat = pos + 3 by omega, show ((pos : Int) + 7).toNat - (pos + 3) = 4 by omega, ← List.drop_drop, ← hu]
    refine ve (Eff.pureC c1 1 (Eff.call pf36 rfl (qNumber_ok ((u.drop 3).take 4) (by rw [List.length_take]; omega)))) ?_
    rintro v29 w2 ⟨c2, hM2, hx2, rfl⟩
    replace hO := hO.mv hM2; replace ho := ho.mv hM2; replace he := he.mv hM2
    rw [← hk]
    refine za rfl <| cnil <| cseq <| cseq <| cg <| zm rfl <| vq (Val.slen Try.underlying9 rfl) <| zm rfl <| vq (Val.subI rfl rfl side side) ?_
    refine zm rfl <| vq (Val.addI rfl rfl side side) <| vq (Val.lss rfl rfl) <| zm rfl ?_
    apply WR.sc false 2 _ (fun w' => w2 = w')
    case hl | hg | hu | hv | hs | hoff | hd => rfl
    case hF => exact fun _ => rfl
    case hT =>
     intro hq10
     try simp only [tstS] at hq10
     simp only [List.take_succ_cons, List.take_zero]
     refine WR.on rfl rfl ?_
     refine zm rfl ?_
     refine WR.on rfl rfl ?_
     refine vq (Val.gtr rfl rfl) ?_
     exact WR.nil ⟨rfl, Sub.drop _ 2 _ rfl rfl, rfl⟩
    rintro _ rfl
    refine zm rfl ?_
    apply WR.sc false 11 _ (fun w' => w2 = w')
    case hl | hg | hu | hv | hs | hoff | hd => rfl
    case hF => exact fun _ => rfl
    case hT =>
     intro hq23
     try simp only [tstS] at hq23
     simp only [List.take_succ_cons, List.take_zero]
     refine WR.on rfl rfl ?_
     refine zm rfl ?_
     refine WR.on rfl rfl ?_
     refine vq (Val.olen sl22 ho rfl) ?_
     refine WR.on rfl rfl ?_
     refine vq (Val.gtr rfl rfl) ?_
     refine WR.on rfl rfl ?_
     refine zm rfl ?_
     apply WR.sc true 6 _ (fun w' => w2 = w')
     case hl | hg | hu | hv | hs | hoff | hd => rfl
     case hF => exact fun _ => rfl
     case hT =>
      intro hq22
      try simp only [tstS] at hq22
      simp only [List.take_succ_cons, List.take_zero]
      refine WR.on rfl rfl ?_
      refine zm rfl ?_
      refine WR.on rfl rfl ?_
      refine zm rfl ?_
      refine WR.on rfl rfl ?_
      refine zm rfl ?_
      refine WR.on rfl rfl ?_
      refine vq (Val.olen sl22 ho rfl) ?_
      refine WR.on rfl rfl ?_
      refine vq (Val.addI rfl rfl side side) ?_
      refine WR.on rfl rfl ?_
      refine vq (Val.neq rfl rfl) ?_
      exact WR.nil ⟨rfl, Sub.drop _ 6 _ rfl rfl, rfl⟩
     rintro _ rfl
     exact WR.nil ⟨rfl, Sub.drop _ 5 _ rfl rfl, rfl⟩
    rintro _ rfl
    refine cnil ?_
    refine WC.cond rfl (fun hc6 => ?_) (fun hc6 => ?_)
    ·try simp only [tstS] at hc6
     refine WC.exit rfl ?_
     have e : framesS s = (l, first, pos) := by
       rw [hfr]
       by_cases h1 : u.length < 15 + n
       · exact framesG_stop (.inl (takeF_no (.inr (.inl (by rw [← hn]; exact h1)))))
       · by_cases h2 : 1073741824 < k
         · exact framesG_stop (.inl (takeF_no (.inr (.inr (.inl (by rw [← hk]; exact h2))))))
         · have h3 : 0 < l.length ∧ k ≠ first + l.length := by omega
           exact framesG_stop (.inr ⟨fun e => by rw [e] at h3; exact absurd h3.1 (by simp), by rw [← hk]; exact h3.2⟩)
     exact ⟨_, vl, css, l, first, pos, subs, hO, ho, he, e⟩
    ·try simp only [tstS] at hc6
     have hz : 15 + n ≤ u.length := by omega
     have hk2 : k ≤ 1073741824 := by omega
     have hlk : l = [] ∨ k = first + l.length := by
       by_cases h0 : l.length = 0
       · exact .inl (List.eq_nil_of_length_eq_zero h0)
       · right
         have h1 : 0 < (l.length : Int) := by omega
         have h6 := hc6.2
         simp [h1] at h6
         omega
     refine cskip <| cseq <| cg <| zm rfl <| zm rfl <| vq (Val.addI rfl rfl side side) <| zm rfl <| vq (Val.addI rfl rfl side side) <| zm rfl ?_
     refine vq (Val.addI rfl rfl side side) <| vq (Val.sslice Try.underlying9 rfl rfl rfl (by omega) (by omega) (by omega)) ?_
     rw [show ((pos : Int) + 7).toNat = pos + 7 by omega, show ((pos : Int) + 7 + (n : Int)).toNat - (pos + 7) = n by omega, ← List.drop_drop, ← hu]
     refine ve (Eff.pureC c2 5 (Eff.call pf24 rfl (qtake_own ((u.drop 7).take n) (by rw [List.length_take, List.length_drop]; omega)))) ?_
     rintro v63 w3 ⟨c3, hM3, hx3, ⟨cs, rfl, xl, xs, rfl, ol, os, okk⟩⟩
     replace hO := hO.mv hM3; replace ho := ho.mv hM3; replace he := he.mv hM3
     replace ol := ol.toC hx3
     replace os := os.toC hx3
     have p2 := ol.oneC; have p3 := os.oneC
     obtain ⟨T, hT⟩ : ∃ T, T = takeSpec plain ((u.drop 7).take n) := ⟨_, rfl⟩
     rw [← hT] at ol os okk ⊢
     obtain ⟨q, hq⟩ : ∃ q, q = T.getD (rec0 0) := ⟨_, rfl⟩
     rw [← hq] at ol os okk ⊢
     refine zm rfl <| vq (Val.extract rfl rfl) <| vq (Val.extract rfl rfl) ?_
     refine ve (Eff.allocC c3 110 zero31) ?_
     rintro _ w4 ⟨b10, c4, rfl, hM4, hb10⟩
     replace hO := hO.mv hM4; replace ho := ho.mv hM4; replace he := he.mv hM4; replace ol := ol.mv hM4; replace os := os.mv hM4
     refine WR.eff_ (Eff.storeNC agg31 rfl rfl hb10 rfl rfl ones) ?_
     rintro _ w5 ⟨hS, hM5⟩
     replace hO := hO.mv hM5; replace ho := ho.mv hM5; replace he := he.mv hM5; replace ol := ol.mv hM5; replace os := os.mv hM5
     replace hb10 := hS
     refine za rfl <| cnil <| cseq <| cseq ?_
     refine WC.regionD (Kp c4 w5 []) [0, 0, 0, 1, 0, 2, 0, 0, 0, 0, 0, 0, 0, 0, 0] [0, 1, 2, 3, 4, 6, 7, 8, 9, 10, 11, 12, 5, 13, 14] mixed (by kernel_rfl) ?_
     have hM6 := Mv.drew c4 w5 []
     have hCw := Mv.drew c4 w5 []
     generalize w5.drew = w6 at hM6 hCw ⊢
     have hb100 := hb10
     replace hO := hO.mv hM6; replace ho := ho.mv hM6; replace he := he.mv hM6; replace ol := ol.mv hM6; replace os := os.mv hM6; replace hb10 := hb10.mv hM6
     refine zdm rfl rfl <| vd rfl (fun _ => Val.not rfl) <| zdm rfl rfl ?_
     apply WD.sc false 11 (!(frameS q (k : Nat) == u.take (15 + n))) (fun w' => ∃ c', Acc c4 w6 [] c' w')
     case hl | hi | hk | hg | hu | hv | hs | hoff | hd => rfl
     case hC => exact hCw.kp
     case hF => exact fun _ => ⟨_, Acc.refl _ _ _⟩
     case hT =>
      intro hq14
      try simp only [tstS] at hq14
      simp only [List.take_succ_cons, List.take_zero]
      obtain ⟨r, hr⟩ : ∃ r, T = some r := Option.isSome_iff_exists.1 (by simpa using hq14)
      have hqr : q = r := by rw [hq, hr]; rfl
      have hm : mayB q = true := by rw [hqr]; rw [hr] at hT; exact (take_bytes hT.symm).2
      obtain ⟨ok1, ok2, ok3, ok4, ok5⟩ := id okk
      have hrd : RdRec _ [I q.kind, I q.id, St q.name, St q.digest, xl, xs] q := ⟨xl, xs, rfl, ol.own.rdInts ok2 ok4, rdSlots os.own ok3 ok5, ok1.1, ok1.2.1, ok1.2.2.1, ok1.2.2.2⟩
      have hKsc14 := Acc.refl c4 w6 []
      refine vc rfl hCw.kp (fun W hW => Val.loadBN agg31 rfl (hb100.kp hW rfl).blk rfl) <| zdm rfl rfl <| zdm rfl rfl <| zdm rfl rfl <| zdm rfl rfl <| vd rfl (fun _ => Val.addI rfl rfl side side) <| zdm rfl rfl <| vd rfl (fun _ => Val.addI rfl rfl side side) <| vd rfl (fun _ => Val.sslice Try.underlying9 rfl rfl rfl (by omega) (by omega) (by omega)) ?_
      rw [Int.toNat_natCast, show ((pos : Int) + 15 + (n : Int)).toNat - pos = 15 + n by omega, ← hu]
      refine WD.eff rfl rfl rfl (Eff.pureC c4 1 (Eff.call pf31 rfl (qframe_ok (n := (k : Nat)) hrd hm))) rfl ?_
      rintro v71 w7 ⟨c7, hM7, hx7, rfl⟩
      refine ⟨fun hC => hC.step hCw hM7 rfl, ?_⟩
      replace hCw := hCw.tr hM7 rfl
      replace hO := hO.mv hM7; replace ho := ho.mv hM7; replace he := he.mv hM7; replace ol := ol.mv hM7; replace os := os.mv hM7; replace hb10 := hb10.mv hM7; replace hKsc14 := hKsc14.mv hM7
      refine vd rfl (fun _ => Val.sne rfl rfl) ?_
      exact WD.nil ⟨rfl, Sub.drop _ 11 _ rfl rfl, _, hKsc14⟩
     rintro w8 ⟨c8, ⟨hM8⟩⟩
     replace hCw := hCw.tr hM8 rfl
     replace hO := hO.mv hM8; replace ho := ho.mv hM8; replace he := he.mv hM8; replace ol := ol.mv hM8; replace os := os.mv hM8; replace hb10 := hb10.mv hM8
     refine WD.nil ?_
     clear hb100
     clear hCw
     refine WC.cond rfl (fun hc8 => ?_) (fun hc8 => ?_)
     ·try simp only [tstS] at hc8
      refine WC.exit rfl ?_
      have e : framesS s = (l, first, pos) := by
        rw [hfr]
        cases hTT : T with
        | none => exact framesG_stop (.inl (takeF_no (.inr (.inr (.inr (by rw [← hn, ← hT, hTT]))))))
        | some r =>
          have hqr : q = r := by rw [hq, hTT]; rfl
          refine framesG_stop (.inl ?_)
          rw [takeF_is (r := r) (by rw [← hn]; exact hz) (by rw [← hk]; exact hk2) (by rw [← hn, ← hT, hTT]), ← hn, ← hk, if_neg]
          intro h
          rw [hqr, hTT, h] at hc8
          simp at hc8
      exact ⟨_, vl, css, l, first, pos, subs, hO, ho, he, e⟩
     ·try simp only [tstS] at hc8
      obtain ⟨r, hr⟩ : ∃ r, T = some r := by
        cases hTT : T with
        | none => rw [hTT] at hc8; simp at hc8
        | some r => exact ⟨r, rfl⟩
      have hqr : q = r := by rw [hq, hr]; rfl
      have htk : takeF u = some (q, k, 15 + n) := by
        have hfe : frameS r (k : Nat) = u.take (15 + n) := by
          rw [hqr, hr] at hc8
          simpa using hc8
        rw [takeF_is (r := r) (by rw [← hn]; exact hz) (by rw [← hk]; exact hk2) (by rw [← hn, ← hT, hr]), ← hn, ← hk, if_pos hfe, hqr]
      have hgo := framesG_go (f := s.length - pos) (first := first) (bytes := pos) htk hlk
      have hfu := framesG_fuel (s.length - pos) (s.length - (pos + 15 + n) + 1) (u.drop (15 + n)) (l ++ [q]) (if l = [] then k else first) (pos + (15 + n)) (by rw [List.length_drop]; omega) (by rw [List.length_drop]; omega)
      have hdd : u.drop (15 + n) = s.drop (pos + 15 + n) := by rw [hu, List.drop_drop]; congr 1; omega
      rw [hgo, hfu, hdd, ← Nat.add_assoc] at hfr
      have he2 := he.snoc ol os okk
      replace he := he2
      refine cskip <| cseq <| cseq <| cg <| zm rfl <| vq (Val.olen sl22 ho rfl) <| vq (Val.eql rfl rfl) <| cnil ?_
      refine WC.cond rfl (fun hc9 => ?_) (fun hc9 => ?_)
      ·try simp only [tstS] at hc9
       refine cg <| zm rfl <| za rfl <| cnil <| cseq <| cg <| zm rfl <| vq (Val.loadBN agg31 rfl hb10.blk rfl) ?_
       refine ve (Eff.build1C c8 187 sl22 rfl rfl rfl rfl rfl) ?_
       rintro _ w9 ⟨b87, c9, rfl, hM9, hb87⟩
       replace hO := hO.mv hM9; replace ho := ho.mv hM9; replace he := he.mv hM9; replace ol := ol.mv hM9; replace os := os.mv hM9; replace hb10 := hb10.mv hM9
       refine ve (Eff.appendC sl22 rfl rfl ho (Src.cellsAt Try.underlying22 hb87.blk.cellsAt rfl ones) mxl oms) ?_
       rintro v88 w10 ⟨c10, hM10, hOq⟩
       clear hb87
       replace hO := hO.mv hM10; replace he := he.mv hM10; replace ol := ol.mv hM10; replace os := os.mv hM10; replace hb10 := hb10.mv hM10
       replace ho := hOq
       refine za rfl <| cnil <| cg <| zm rfl <| vq (Val.addI rfl rfl side side) <| zm rfl <| vq (Val.addI rfl rfl side side) <| za rfl <| cnil ?_
       have hcf : (css ++ [[I q.kind, I q.id, St q.name, St q.digest, xl, xs]]).flatten = css.flatten ++ [I q.kind, I q.id, St q.name, St q.digest, xl, xs] := by simp
       have hll : (l ++ [q]).length = l.length + 1 := by simp
       first
       | (have h0 : l = [] := List.eq_nil_of_length_eq_zero (by omega)); (rw [if_pos h0] at hfr); exact ⟨(_, l ++ [q], k, pos + 15 + n), subs, ⟨_, css ++ [[I q.kind, I q.id, St q.name, St q.digest, xl, xs]], hO, by dsimp only; rw [hcf, hll]; exact ho, he, by dsimp only; omega, by dsimp only; omega, hk2, hfr⟩, by dsimp only; omega⟩
       | (have h0 : ¬ l = [] := fun e => by rw [e] at hc9; simp at hc9); (rw [if_neg h0] at hfr); exact ⟨(_, l ++ [q], first, pos + 15 + n), subs, ⟨_, css ++ [[I q.kind, I q.id, St q.name, St q.digest, xl, xs]], hO, by dsimp only; rw [hcf, hll]; exact ho, he, by dsimp only; omega, by dsimp only; omega, hf, hfr⟩, by dsimp only; omega⟩
      ·try simp only [tstS] at hc9
       refine cskip <| cseq <| cg <| zm rfl <| vq (Val.loadBN agg31 rfl hb10.blk rfl) ?_
       refine ve (Eff.build1C c8 187 sl22 rfl rfl rfl rfl rfl) ?_
       rintro _ w11 ⟨b87, c11, rfl, hM11, hb87⟩
       replace hO := hO.mv hM11; replace ho := ho.mv hM11; replace he := he.mv hM11; replace ol := ol.mv hM11; replace os := os.mv hM11; replace hb10 := hb10.mv hM11
       refine ve (Eff.appendC sl22 rfl rfl ho (Src.cellsAt Try.underlying22 hb87.blk.cellsAt rfl ones) mxl oms) ?_
       rintro v88 w12 ⟨c12, hM12, hOq⟩
       clear hb87
       replace hO := hO.mv hM12; replace he := he.mv hM12; replace ol := ol.mv hM12; replace os := os.mv hM12; replace hb10 := hb10.mv hM12
       replace ho := hOq
       refine za rfl <| cnil <| cg <| zm rfl <| vq (Val.addI rfl rfl side side) <| zm rfl <| vq (Val.addI rfl rfl side side) <| za rfl <| cnil ?_
       have hcf : (css ++ [[I q.kind, I q.id, St q.name, St q.digest, xl, xs]]).flatten = css.flatten ++ [I q.kind, I q.id, St q.name, St q.digest, xl, xs] := by simp
       have hll : (l ++ [q]).length = l.length + 1 := by simp
       first
       | (have h0 : l = [] := List.eq_nil_of_length_eq_zero (by omega)); (rw [if_pos h0] at hfr); exact ⟨(_, l ++ [q], k, pos + 15 + n), subs, ⟨_, css ++ [[I q.kind, I q.id, St q.name, St q.digest, xl, xs]], hO, by dsimp only; rw [hcf, hll]; exact ho, he, by dsimp only; omega, by dsimp only; omega, hk2, hfr⟩, by dsimp only; omega⟩
       | (have h0 : ¬ l = [] := fun e => by rw [e] at hc9; simp at hc9); (rw [if_neg h0] at hfr); exact ⟨(_, l ++ [q], first, pos + 15 + n), subs, ⟨_, css ++ [[I q.kind, I q.id, St q.name, St q.digest, xl, xs]], hO, by dsimp only; rw [hcf, hll]; exact ho, he, by dsimp only; omega, by dsimp only; omega, hf, hfr⟩, by dsimp only; omega⟩
   ·try simp only [tstS] at hc3
    refine WC.exit rfl ?_
    have e : framesS s = (l, first, pos) := by rw [hfr]; exact framesG_stop (.inl (takeF_no (.inl (by omega))))
    exact ⟨_, vl, css, l, first, pos, subs, hO, ho, he, e⟩
  ·skip
   rintro e9 w9 ⟨c9, vl, css, l, first, pos, hsub, hO, ho, he, e⟩
   refine WC.sub hsub ?_
   clear hsub e9
   refine cseq <| cg <| zm rfl <| zm rfl <| zm rfl <| za rfl <| za rfl <| za rfl <| cnil ?_
   refine WC.ret3 rfl rfl rfl rfl ?_
   rw [e]
   exact ⟨hO.below, c9, vl, css, rfl, ho, he, hO⟩
end Go.Proofs.Ythlfolpcmcejkaa
