/- Readers of bytes. No condition. -/
import Derived.Test.YthlfolpcmcejkaaRec7
import Derived.Test.YthlfolpcmcejkaaTakePlain
set_option linter.unusedSimpArgs false
set_option linter.unusedVariables false
set_option maxRecDepth 100000
namespace Go.Proofs.Ythlfolpcmcejkaa
open Go Go.Eng Go.RowKit Silo TryT

theorem ptake_ok {w : World} {b : Nat} {s : List UInt8} {bad : Bool} (hb : Blk w b [St s, .bool bad] 72) (n : Int) (h0 : 0 ≤ n) (hs : s.length ≤ 140737488355328) :
    Calls Try.prog 65 #[.pointer (some ⟨b, 0, none⟩), I n] w (Ret fun v w' => w.grownBy w' (some b) ∧ v = St (tkT s bad n) ∧ Blk w' b [St (tkS s bad n), .bool (tkBad s bad n)] 72) := by
  have hg : w.grownBy w (some b) := grown_refl _ _
  refine enter (n := 38) (res := #[.tmp 4]) Try.func65 rfl rfl rfl rfl ?_
  refine cseq <| cg <| za rfl <| cnil <| cseq <| cseq <| cg <| zm rfl <| vq (Val.nilCheck rfl) ?_
  refine vq (Val.fieldAddr fld72_1 rfl) <| vq (Val.loadB scl4 rfl hb rfl) <| zm rfl ?_
  apply WR.sc false 7 _ (fun w' => w = w')
  case hl | hg | hu | hv | hs | hoff | hd => rfl
  case hF => exact fun _ => rfl
  case hT =>
   intro hq12
   try simp only [tstS] at hq12
   simp only [List.take_succ_cons, List.take_zero]
   refine WR.on rfl rfl ?_
   refine zm rfl ?_
   refine WR.on rfl rfl ?_
   refine zm rfl ?_
   refine WR.on rfl rfl ?_
   refine vq (Val.nilCheck rfl) ?_
   refine WR.on rfl rfl ?_
   refine vq (Val.fieldAddr fld72_0 rfl) ?_
   refine WR.on rfl rfl ?_
   refine vq (Val.loadB scl9 rfl hb rfl) ?_
   refine WR.on rfl rfl ?_
   refine vq (Val.slen Try.underlying9 rfl) ?_
   refine WR.on rfl rfl ?_
   refine vq (Val.gtr rfl rfl) ?_
   exact WR.nil ⟨rfl, Sub.drop _ 7 _ rfl rfl, rfl⟩
  rintro _ rfl
  refine cnil ?_
  refine WC.cond rfl (fun hc1 => ?_) (fun hc1 => ?_)
  ·skip
   refine cseq <| cg <| zm rfl <| vq (Val.nilCheck rfl) <| vq (Val.fieldAddr fld72_1 rfl) ?_
   refine WR.eff_ (Eff.storeB scl4 rfl rfl ra ra hb rfl) ?_
   intro _ w1 hS1
   replace hb := hS1.blk
   replace hg := hS1.grown
   refine cnil <| cseq <| cg <| za rfl <| cnil ?_
   refine WC.ret1 rfl rfl ?_
   have e : tkBad s bad n = true := hc1
   refine ⟨hg, by rw [tkT, e]; rfl, ?_⟩
   rw [tkS, e]; exact hb
  ·skip
   refine cskip <| cseq ?_
   have e : tkBad s bad n = false := hc1
   have hlt : n ≤ s.length := by
     simp only [tkBad, Bool.or_eq_false_iff, decide_eq_false_iff_not] at e; omega
   have ebad : bad = false := by
     simp only [tkBad, Bool.or_eq_false_iff] at e; exact e.1
   refine cg <| zm rfl <| vq (Val.nilCheck rfl) <| vq (Val.fieldAddr fld72_0 rfl) <| vq (Val.loadB scl9 rfl hb rfl) <| zm rfl <| vq (Val.ssliceTo Try.underlying9 rfl rfl side side) <| za rfl <| cnil ?_
   refine cseq <| cg <| zm rfl <| zm rfl <| vq (Val.nilCheck rfl) <| vq (Val.fieldAddr fld72_0 rfl) <| vq (Val.loadB scl9 rfl hb rfl) <| zm rfl <| vq (Val.ssliceFrom Try.underlying9 rfl rfl side side) ?_
   refine vq (Val.nilCheck rfl) <| vq (Val.fieldAddr fld72_0 rfl) ?_
   refine WR.eff_ (Eff.storeB scl9 rfl rfl ra ra hb rfl) ?_
   intro _ w2 hS2
   replace hb := hS2.blk
   replace hg := hS2.grown
   refine cnil <| cseq <| cg <| zm rfl <| za rfl <| cnil ?_
   refine WC.ret1 rfl rfl ?_
   refine ⟨hg, by rw [tkT, e]; rfl, ?_⟩
   subst ebad
   rw [tkS, e]; exact hb

theorem qtake_ok {w : World} {b : Nat} {s : List UInt8} {bad : Bool} (hb : Blk w b [St s, .bool bad] 77) (n : Int) (h0 : 0 ≤ n) (hs : s.length ≤ 140737488355328) :
    Calls Try.prog 52 #[.pointer (some ⟨b, 0, none⟩), I n] w (Ret fun v w' => w.grownBy w' (some b) ∧ v = St (tkT s bad n) ∧ Blk w' b [St (tkS s bad n), .bool (tkBad s bad n)] 77) := by
  have hg : w.grownBy w (some b) := grown_refl _ _
  refine enter (n := 38) (res := #[.tmp 4]) Try.func52 rfl rfl rfl rfl ?_
  refine cseq <| cg <| za rfl <| cnil <| cseq <| cseq <| cg <| zm rfl <| vq (Val.nilCheck rfl) ?_
  refine vq (Val.fieldAddr fld77_1 rfl) <| vq (Val.loadB scl4 rfl hb rfl) <| zm rfl ?_
  apply WR.sc false 7 _ (fun w' => w = w')
  case hl | hg | hu | hv | hs | hoff | hd => rfl
  case hF => exact fun _ => rfl
  case hT =>
   intro hq12
   try simp only [tstS] at hq12
   simp only [List.take_succ_cons, List.take_zero]
   refine WR.on rfl rfl ?_
   refine zm rfl ?_
   refine WR.on rfl rfl ?_
   refine zm rfl ?_
   refine WR.on rfl rfl ?_
   refine vq (Val.nilCheck rfl) ?_
   refine WR.on rfl rfl ?_
   refine vq (Val.fieldAddr fld77_0 rfl) ?_
   refine WR.on rfl rfl ?_
   refine vq (Val.loadB scl9 rfl hb rfl) ?_
   refine WR.on rfl rfl ?_
   refine vq (Val.slen Try.underlying9 rfl) ?_
   refine WR.on rfl rfl ?_
   refine vq (Val.gtr rfl rfl) ?_
   exact WR.nil ⟨rfl, Sub.drop _ 7 _ rfl rfl, rfl⟩
  rintro _ rfl
  refine cnil ?_
  refine WC.cond rfl (fun hc1 => ?_) (fun hc1 => ?_)
  ·skip
   refine cseq <| cg <| zm rfl <| vq (Val.nilCheck rfl) <| vq (Val.fieldAddr fld77_1 rfl) ?_
   refine WR.eff_ (Eff.storeB scl4 rfl rfl ra ra hb rfl) ?_
   intro _ w1 hS1
   replace hb := hS1.blk
   replace hg := hS1.grown
   refine cnil <| cseq <| cg <| za rfl <| cnil ?_
   refine WC.ret1 rfl rfl ?_
   have e : tkBad s bad n = true := hc1
   refine ⟨hg, by rw [tkT, e]; rfl, ?_⟩
   rw [tkS, e]; exact hb
  ·skip
   refine cskip <| cseq ?_
   have e : tkBad s bad n = false := hc1
   have hlt : n ≤ s.length := by
     simp only [tkBad, Bool.or_eq_false_iff, decide_eq_false_iff_not] at e; omega
   have ebad : bad = false := by
     simp only [tkBad, Bool.or_eq_false_iff] at e; exact e.1
   refine cg <| zm rfl <| vq (Val.nilCheck rfl) <| vq (Val.fieldAddr fld77_0 rfl) <| vq (Val.loadB scl9 rfl hb rfl) <| zm rfl <| vq (Val.ssliceTo Try.underlying9 rfl rfl side side) <| za rfl <| cnil ?_
   refine cseq <| cg <| zm rfl <| zm rfl <| vq (Val.nilCheck rfl) <| vq (Val.fieldAddr fld77_0 rfl) <| vq (Val.loadB scl9 rfl hb rfl) <| zm rfl <| vq (Val.ssliceFrom Try.underlying9 rfl rfl side side) ?_
   refine vq (Val.nilCheck rfl) <| vq (Val.fieldAddr fld77_0 rfl) ?_
   refine WR.eff_ (Eff.storeB scl9 rfl rfl ra ra hb rfl) ?_
   intro _ w2 hS2
   replace hb := hS2.blk
   replace hg := hS2.grown
   refine cnil <| cseq <| cg <| zm rfl <| za rfl <| cnil ?_
   refine WC.ret1 rfl rfl ?_
   refine ⟨hg, by rw [tkT, e]; rfl, ?_⟩
   subst ebad
   rw [tkS, e]; exact hb

theorem pnumber_ok {w : World} {b : Nat} {s : List UInt8} {bad : Bool} (hb : Blk w b [St s, .bool bad] 72) (n : Int) (h0 : 0 ≤ n) (h7 : n ≤ 7) (hs : s.length ≤ 140737488355328) :
    Calls Try.prog 64 #[.pointer (some ⟨b, 0, none⟩), I n] w (Ret fun v w' => w.grownBy w' (some b) ∧ v = I (minus (beNat (tkT s bad n))) ∧ Blk w' b [St (tkS s bad n), .bool (tkBad s bad n)] 72) := by
  have hl := tkT_len s bad n
  have hlt := beNat_lt (tkT s bad n)
  have hp : 256 ^ (tkT s bad n).length ≤ 256 ^ 7 := Nat.pow_le_pow_right (by decide) (by omega)
  refine enter (n := 14) (res := #[.tmp 4]) Try.func64 rfl rfl rfl rfl ?_
  refine cseq <| cg <| za rfl <| cnil <| cseq <| cg <| zm rfl <| zm rfl ?_
  refine ve (Eff.call pf65 rfl (ptake_ok hb n h0 hs)) ?_
  rintro _ w1 ⟨hg, rfl, hb1⟩
  refine ve (Eff.call pf75 rfl (number_ok' _ (by omega))) ?_
  rintro _ w2 ⟨hk2, rfl⟩
  replace hb1 := hb1.up hk2; replace hg := grown_trans hg (.inl rfl) (grown_of_below hk2 _)
  refine za rfl <| cnil <| cseq <| cseq <| cg <| zm rfl <| vq (Val.eql rfl rfl) <| cnil ?_
  refine WC.cond rfl (fun hc2 => ?_) (fun hc2 => ?_)
  ·try simp only [tstS] at hc2
   refine cseq <| cg <| za rfl <| cnil ?_
   refine WC.ret1 rfl rfl ?_
   exact ⟨hg, by rw [minus, if_pos (by omega)], hb1⟩
  ·try simp only [tstS] at hc2
   refine cskip <| cseq <| cg <| zm rfl <| vq (Val.convTo64 Try.underlying94 Try.underlying3 rfl (by omega) (by omega)) <| za rfl <| cnil ?_
   refine WC.ret1 rfl rfl ?_
   exact ⟨hg, by rw [minus, if_neg (by omega)], hb1⟩

theorem qNumber_ok {w : World} (l : List UInt8) (hl : l.length ≤ 6) :
    Calls Try.prog 36 #[St l] w (Ret fun v' w' => Below w.heap.size w w' ∧ v' = I (beNat l : Nat)) := by
  refine enter (n := 19) (res := #[.tmp 2]) Try.func36 rfl rfl rfl rfl ?_
  refine cseq <| cg <| za rfl <| cnil <| cseq <| cg <| za rfl <| cnil <| cseq ?_
  refine cseq <| cg <| za rfl <| cnil <| cblock ?_
  refine WC.loop (σ := Nat) (fun k => [(0, St l), (4, I k), (3, I (beNat (l.take k) : Nat))]) (fun k w' => k ≤ l.length ∧ w' = w) (fun k => l.length - k) 0 subs ⟨by omega, rfl⟩ ?_
  rintro k wl ⟨hk, rfl⟩
  refine cseq <| cseq <| cg <| zm rfl <| zm rfl <| vq (Val.slen Try.underlying9 rfl) <| vq (Val.lss rfl rfl) <| cnil ?_
  refine WC.cond rfl (fun hc3 => ?_) (fun hc3 => ?_)
  ·try simp only [tstS] at hc3
   have hkl : k < l.length := by omega
   have hlt := beNat_lt (l.take k)
   have hlt2 : beNat (l.take k) < 36028797018963968 := by
     rw [take_len hk] at hlt
     have : 256 ^ k ≤ 256 ^ 6 := Nat.pow_le_pow_right (by decide) (by omega)
     omega
   refine cskip <| cseq <| cblock <| cg <| zm rfl <| vq (Val.shl8_i64 rfl rfl hlt2) <| zm rfl <| zm rfl <| vq (Val.sindex Try.underlying9 rfl rfl (by omega) (List.getElem?_eq_getElem hkl)) ?_
   refine vq (Val.convU8 Try.underlying5 Try.underlying3 rfl) <| vq (Val.or256_i64 rfl rfl hlt2 l[k].toNat_lt) <| za rfl <| cnil <| cg <| zm rfl <| vq (Val.addI rfl rfl side side) <| za rfl <| cnil ?_
   have e1 : beNat (l.take (k + 1)) = beNat (l.take k) * 256 + l[k].toNat := by rw [List.take_succ_eq_append_getElem hkl, beNat_snoc]
   refine ⟨k + 1, ?_, ⟨hkl, rfl⟩, by omega⟩
   rw [e1]
   repeat (first | exact Sub.nil _ | refine Sub.cons rfl ?_ | refine Sub.consM rfl ?_)
  ·try simp only [tstS] at hc3
   refine WC.exit rfl ?_
   refine cseq <| cg <| zm rfl <| za rfl <| cnil ?_
   refine WC.ret1 rfl rfl ?_
   exact ⟨Below.refl _ _, by rw [List.take_of_length_le (by omega)]⟩

theorem qnumber_ok {w : World} {b : Nat} {s : List UInt8} {bad : Bool} (hb : Blk w b [St s, .bool bad] 77) (hs : s.length ≤ 140737488355328) :
    Calls Try.prog 53 #[.pointer (some ⟨b, 0, none⟩)] w (Ret fun v w' => w.grownBy w' (some b) ∧ v = I (beNat (tkT s bad 4) : Nat) ∧ Blk w' b [St (tkS s bad 4), .bool (tkBad s bad 4)] 77) := by
  have hl := tkT_len s bad 4
  refine enter (n := 6) (res := #[.tmp 2]) Try.func53 rfl rfl rfl rfl ?_
  refine cseq <| cg <| za rfl <| cnil <| cseq <| cg <| zm rfl ?_
  refine ve (Eff.call pf52 rfl (qtake_ok hb 4 (by decide) hs)) ?_
  rintro _ w1 ⟨hg, rfl, hb1⟩
  refine ve (Eff.call pf36 rfl (qNumber_ok _ (by omega))) ?_
  rintro _ w2 ⟨hk2, rfl⟩
  replace hb1 := hb1.up hk2; replace hg := grown_trans hg (.inl rfl) (grown_of_below hk2 _)
  refine za rfl <| cnil ?_
  refine WC.ret1 rfl rfl ?_
  exact ⟨hg, rfl, hb1⟩
end Go.Proofs.Ythlfolpcmcejkaa
