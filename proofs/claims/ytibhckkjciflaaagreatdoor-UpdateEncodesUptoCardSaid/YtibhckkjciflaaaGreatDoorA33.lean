/- A part of the proof. -/
import Derived.Test.YtibhckkjciflaaaGreatDoorA09
import Derived.Test.YtibhckkjciflaaaGreatDoorProg
import Derived.Test.YtibhckkjciflaaaGreatDoorA10
import Derived.Test.YtibhckkjciflaaaGreatDoorA11
import Derived.Test.YtibhckkjciflaaaGreatDoorA12
import Derived.Lib.Strings
import Derived.Lib.Slices
import Derived.Lib.Walk
set_option maxRecDepth 1000000
set_option maxHeartbeats 1000000
open Go Go.aI Go.Proofs
noncomputable def Go.aI.Tr.ofL{α:Type}(l:List (Nat×α)):Tr α:=List.rec .nil (fun x _ ih=>ih.put x.1 x.2) l
noncomputable def Go.aI.Tr.VV{α:Type}(k:Nat)(l:List α):Tr α:=List.rec (fun _=>.nil) (fun x _ ih k=>(ih (Nat.succ k)).put k x) l k
namespace Go.gQ
noncomputable def d(x:TypeInfo):MT:=⟨x.desc,x⟩
open Tryz in
noncomputable def Dv:Tr MT:=.VV 0 [d t0,d t1,d t2,d t3,d t4,d t5,⟨t5.desc,t6⟩,d t7,⟨t7.desc,t8⟩,d t9,⟨t9.desc,t10⟩,⟨t9.desc,t11⟩,d t12,d t13,⟨t13.desc,t14⟩,d t15,d t16,d t17,d t18,⟨t18.desc,t19⟩,d t20,d t21,⟨t3.desc,t22⟩,d t23,d t24,⟨t24.desc,t25⟩,d t26,d t27,⟨t27.desc,t28⟩,d t29,d t30,d t31,⟨t31.desc,t32⟩,d t33,⟨t33.desc,t34⟩,d t35,⟨t35.desc,t36⟩,d t37,d t38,d t39,d t40,d t41,⟨t3.desc,t42⟩,d t43,d t44,d t45,d t46,d t47,d t48,⟨t48.desc,t49⟩,d t50,d t51,d t52,d t53,d t54,d t55,d t56,d t57,d t58,d t59,d t60,d t61,d t62,d t63,d t64,d t65,d t66,d t67,d t68,d t69,d t70,d t71,d t72,d t73,d t74,d t75,d t76,d t77,d t78,d t79,d t80,d t81,d t82,d t83,d t84,d t85,d t86,d t87,d t88,⟨t88.desc,t89⟩,d t90,d t91,d t92,d t93,d t94,d t95,⟨t95.desc,t96⟩,d t97,⟨t97.desc,t98⟩,d t99,d t100,⟨t100.desc,t101⟩,d t102,d t103,d t104,d t105,d t106,d t107,d t108,d t109,d t110,d t111,d t112,d t113,d t114,d t115,d t116,d t117,d t118,d t119,d t120,d t121,d t122,d t123,d t124,d t125,d t126,d t127,d t128,d t129,d t130,⟨t130.desc,t131⟩,d t132,⟨t132.desc,t133⟩,d t134,d t135,d t136,d t137,d t138,d t139,d t140,d t141,d t142,d t143,d t144,d t145,d t146,d t147,d t148,d t149,d t150,⟨t150.desc,t151⟩,d t152,d t153,d t154,d t155,d t156,d t157,d t158,d t159,d t160,⟨t160.desc,t161⟩,d t162,d t163,d t164,d t165,d t166,d t167,d t168,d t169,d t170,d t171,d t172,d t173,d t174,d t175,d t176,d t177,d t178,d t179,d t180,⟨t180.desc,t181⟩,d t182,d t183,d t184,d t185,d t186,d t187,d t188,d t189,d t190,d t191,d t192,d t193,d t194,d t195,d t196,d t197,d t198,d t199,d t200,d t201,d t202,d t203,d t204,d t205,d t206,d t207,d t208,d t209,d t210,d t211,d t212,⟨t212.desc,t213⟩,d t214,⟨t214.desc,t215⟩,d t216,d t217,d t218,d t219,d t220,d t221,d t222,d t223,d t224,d t225,d t226,d t227,d t228,d t229,d t230,d t231,d t232,d t233,d t234,d t235,d t236,d t237,d t238,⟨t238.desc,t239⟩,d t240,d t241,d t242,⟨t242.desc,t243⟩,d t244,d t245,d t246,d t247,d t248,d t249,d t250,d t251,d t252,d t253,d t254,d t255,d t256,d t257,d t258,d t259,d t260,d t261,d t262,d t263,⟨t263.desc,t264⟩,d t265,d t266,d t267,d t268,d t269,d t270,d t271,d t272,d t273,d t274,d t275,d t276,⟨t276.desc,t277⟩,d t278,d t279,d t280,d t281,d t282,d t283,d t284,⟨t284.desc,t285⟩,d t286,d t287,d t288,d t289,d t290,d t291,⟨t291.desc,t292⟩,d t293,d t294,d t295,d t296,d t297,d t298,⟨t298.desc,t299⟩,d t300,d t301,d t302,d t303,d t304,d t305,d t306,d t307,d t308,d t309,d t310,d t311,d t312,d t313,d t314,d t315,d t316,d t317,d t318,d t319,d t320,d t321,⟨t321.desc,t322⟩,d t323,d t324,d t325,d t326,d t327,d t328,d t329,d t330,d t331,d t332,d t333,d t334,d t335,d t336,d t337,d t338,d t339,d t340,d t341,d t342,d t343,⟨t3.desc,t344⟩,d t345,d t346,d t347,d t348,d t349,d t350,d t351,d t352,d t353,⟨t353.desc,t354⟩,d t355,d t356,d t357,d t358,d t359,d t360,d t361,d t362,d t363,d t364,d t365,d t366,d t367,d t368,d t369,d t370,d t371,d t372,d t373,d t374,d t375,d t376,d t377,d t378,d t379,d t380,d t381,d t382,⟨t382.desc,t383⟩,d t384,d t385,d t386,d t387,d t388,d t389,⟨t389.desc,t390⟩,d t391,⟨t391.desc,t392⟩,d t393,d t394,⟨t394.desc,t395⟩,d t396,d t397,d t398,d t399,d t400,d t401,d t402,d t403,d t404,d t405,d t406,d t407,d t408,d t409,⟨t409.desc,t410⟩,d t411,⟨t411.desc,t412⟩,d t413,d t414,⟨t414.desc,t415⟩,d t416,d t417,d t418,d t419,d t420,d t421,⟨t421.desc,t422⟩,d t423,⟨t423.desc,t424⟩,d t425,⟨t425.desc,t426⟩,d t427,d t428,d t429,d t430,d t431,d t432,d t433,d t434,d t435,d t436,d t437,d t438,⟨t438.desc,t439⟩,d t440,d t441,⟨t441.desc,t442⟩,⟨t5.desc,t443⟩,⟨t5.desc,t444⟩,d t445,⟨t21.desc,t446⟩,⟨t21.desc,t447⟩,d t448,⟨t448.desc,t449⟩,d t450]
open Tryz in
noncomputable def GZ:Tr Func:=.VV 0 [f0,f1,f2,f3,f4,f5,f6,f7,f8,f9,f10,f11,f12,f13,f14,f15,f16,f17,f18,f19,f20,f21,f22,f23,f24,f25,f26,f27,f28,f29,f30,f31,f32,f33,f34,f35,f36,f37,f38,f39,f40,f41,f42,f43,f44,f45,f46,f47,f48,f49,f50,f51,f52,f53,f54,f55,f56,f57,f58,f59,f60,f61,f62,f63,f64,f65,f66,f67,f68,f69,f70,f71,f72,f73,f74,f75,f76,f77,f78,f79,f80,f81,f82,f83,f84,f85,f86,f87,f88,f89,f90,f91,f92,f93,f94,f95,f96,f97,f98,f99,f100,f101,f102,f103,f104,f105,f106,f107,f108,f109,f110,f111,f112,f113,f114,f115,f116,f117,f118,f119,f120,f121,f122,f123,f124,f125,f126,f127,f128,f129,f130,f131,f132,f133,f134,f135,f136,f137,f138,f139,f140,f141,f142,f143,f144,f145,f146,f147,f148,f149,f150,f151,f152,f153,f154,f155,f156,f157,f158,f159,f160,f161,f162,f163,f164,f165,f166,f167,f168,f169,f170,f171,f172,f173,f174,f175,f176,f177,f178,f179,f180,f181,f182,f183,f184,f185,f186,f187,f188,f189,f190,f191,f192,f193,f194,f195,f196,f197,f198,f199,f200,f201,f202,f203,f204,f205,f206,f207,f208,f209,f210,f211,f212,f213,f214,f215,f216,f217,f218,f219,f220,f221,f222,f223,f224,f225,f226,f227,f228,f229,f230,f231,f232,f233,f234,f235,f236,f237,f238,f239,f240,f241,f242,f243,f244,f245,f246,f247,f248,f249,f250,f251,f252,f253,f254,f255,f256,f257,f258,f259,f260,f261,f262,f263,f264,f265,f266,f267,f268,f269,f270,f271,f272,f273,f274,f275,f276,f277,f278,f279,f280,f281,f282,f283,f284,f285,f286,f287,f288,f289,f290,f291,f292,f293,f294,f295,f296,f297,f298,f299,f300,f301,f302,f303,f304,f305,f306,f307,f308,f309,f310,f311,f312,f313,f314,f315,f316,f317,f318,f319,f320,f321,f322,f323,f324,f325,f326,f327,f328,f329,f330,f331,f332,f333,f334,f335,f336,f337,f338,f339,f340,f341,f342,f343,f344,f345,f346,f347,f348,f349,f350,f351,f352,f353,f354,f355,f356,f357,f358,f359,f360,f361,f362,f363,f364,f365,f366,f367,f368,f369,f370,f371,f372,f373,f374,f375,f376,f377,f378,f379,f380,f381,f382,f383,f384,f385,f386,f387,f388,f389,f390,f391,f392,f393,f394,f395,f396,f397,f398,f399,f400,f401,f402,f403,f404,f405,f406,f407,f408,f409,f410,f411,f412,f413,f414,f415,f416,f417,f418,f419,f420,f421,f422,f423,f424,f425,f426,f427,f428,f429,f430,f431,f432,f433,f434,f435,f436,f437,f438,f439,f440,f441,f442,f443,f444,f445,f446,f447,f448,f449]
noncomputable def uM:Tr Unit:=.ofL ([0,1,2,3,4,5,6,7,8,9,10,11,12,15,16,17,20,21,22,23,24,25,26,27,28,29,30,31,32,33,34,35,36,37,38,39,40,41,42,43,44,45,46,47,48,49,50,51,52,53,54,55,56,57,58,59,60,61,62,63,64,65,66,67,68,69,70,71,72,73,74,75,76,77,78,79,80,81,82,83,84,85,86,87,88,89,90,91,92,93,94,95,96,97,98,99,100,101,102,103,104,105,106,107,108,109,110,111,112,113,114,115,116,117,118,119,120,121,122,123,124,125,126,127,128,129,130,131,132,133,134,135,136,137,138,139,140,141,142,143,144,145,146,147,148,149,150,151,152,153,154,155,156,157,158,159,160,161,162,163,164,165,166,167,168,169,170,171,172,173,174,175,176,177,178,179,180,181,182,183,184,185,186,187,188,189,190,191,192,193,194,195,196,197,198,199,200,201,202,203,204,205,206,207,208,209,210,211,212,213,214,215,216,217,218,219,220,221,222,223,224,225,226,227,228,229,230,231,232,233,234,235,236,237,238,239,240,241,242,243,244,245,246,247,248,249,250,251,252,253,254,255,256,257,258,259,260,261,262,263,264,265,266,267,268,269,270,271,272,273,274,275,278,279,280,281,282,283,284,285,286,287,288,289,290,291,292,293,294,295,296,297,298,299,300,301,302,303,304,305,306,307,308,309,310,311,312,313,314,315,316,317,318,319,320,321,322,323,324,325,326,327,328,329,330,331,332,333,334,335,336,337,338,339,340,341,342,343,344,345,346,347,348,349,350,351,352,353,354,355,356,357,358,359,360,361,362,363,364,365,366,367,368,369,370,371,372,373,374,375,376,377,378,379,380,381,384,385,386,387,388,389,390,391,392,393,394,395,396,397,398,399,400,401,402,403,404,405,406,407,408,409,410,411,412,413,414,415,416,417,418,419,420,421,422,423,424,425,426,427,428,429,430,431,432,433,434,435,436,437,440,443,444,445,446,447,450].map fun x=>(x,()))
noncomputable def xN(ro:Nat)(jP:FuncId→List MV→MH→Option (MV×MH))(bo:BinOp→TypeId→MV→MV→Option MV)(co:TypeId→TypeId→MV→Option MV):Env:=⟨Dv,GZ,fun f=>cond (Nat.beq f 345) (some .UA) none,fun t=>Option.rec false (fun _=>true) (uM.get t),⟨ro,10⟩,jP,bo,co⟩
noncomputable def VW(ro:Nat)(jP:FuncId→List MV→MH→Option (MV×MH)):Env:=xN ro jP (fun _ _ _ _=>none) (fun _ _ _=>none)
end Go.gQ
namespace Go.gQ
open Go Go.aI
def eH:nG:=⟨0,[1779033703,3144134277,1013904242,2773480762,1359893119,2600822924,528734635,1541459225],131,1,[1116352408,1899447441,3049323471,3921009573,961987163,1508970993,2453635748,2870763221,3624381080,310598401,607225278,1426881987,1925078388,2162078206,2614888103,3248222580,3835390401,4022224774,264347078,604807628,770255983,1249150122,1555081692,1996064986,2554220882,2821834349,2952996808,3210313671,3336571891,3584528711,113926993,338241895,666307205,773529912,1294757372,1396182291,1695183700,1986661051,2177026350,2456956037,2730485921,2820302411,3259730800,3345764771,3516065817,3600352804,4094571909,275423344,430227734,506948616,659060556,883997877,958139571,1322822218,1537002063,1747873779,1955562222,2024104815,2227730452,2361852424,2428436474,2756734187,3204031479,3329325298],176,5⟩
noncomputable def NU:Env:=xN 11 (vJ (NS jR 159) (NT jR 160)) (NL jR) (fun s d x=>NM jR s d 5 27 x)
noncomputable def oG(k n:Nat):List MV:=Nat.rec (fun _=>[]) (fun _ ih k=>.opq k::ih (Nat.succ k)) n k
noncomputable def qM(m so:Nat)(mid:List MV):List MV:=oG 100000 so++(mid++oG (Nat.add 100008 so) (Nat.sub m (Nat.add so 8)))
noncomputable def DL(m so:Nat)(t u:TypeId):Tr MB:=(eH.tab.put 10 (.cells (oG 8 64) u 1 false)).put 11 (.cells (qM m so (oG 0 8)) t 1 false)
noncomputable def Wn:Option (MV×MH)→Option (List MV×TypeId)
 |some (.bY [],h)=>match h.get 11 with
  |some (.cells cs u _ _)=>some (cs,u)
  |_=>none
 |_=>none
def Hq:List MV:=[.opq 1561,.opq 1562,.opq 1563,.opq 1564,.opq 1565,.opq 1566,.opq 1567,.opq 1568]
def Hr(m so:Nat):Prop:=∀t u:TypeId,Wn (Go.aI.run NU 60 (.call 118 [.ptr 11 so,.sl 10 0 64 64]) ⟨DL m so t u,12⟩)=some (qM m so Hq,t)
theorem akT:Hr 8 0:=fun t u=>by kernel_rfl
theorem akU:Hr 73 0:=fun t u=>by kernel_rfl
end Go.gQ
namespace Go.gQ
open Go Go.aI Go.Proofs
set_option maxRecDepth 1000000
theorem ty1:Dv.jE.map (fun x=>Tryz.prog.info? x.1)=Dv.jE.map (fun x=>some x.2.info):=by kernel_rfl
theorem ty2:Dv.jE.map (fun x=>Tryz.prog.underlying x.1)=Dv.jE.map (fun x=>some x.2.und):=by kernel_rfl
theorem Dh:GZ.jE.map (fun x=>Tryz.prog.funcs[x.1]?)=GZ.jE.map (fun x=>some x.2):=by kernel_rfl
theorem fn2:GZ.jE.all (fun x=>!decide (x.2.name = "runtime.NumGoroutine"))=true:=by kernel_rfl
theorem cm:uM.jE.all (fun x=>!Tryz.prog.eqGuardType Tryz.prog.depth x.1&&!Tryz.prog.stoodInHeld x.1)=true:=by kernel_rfl
theorem mx:Tryz.prog.follows .mixedOrders=true:=by kernel_rfl
theorem akJ[dw](s:List Nat)(c:Nat)(σ:Sg)(w:World):(callFunc 345 ⟨aF σ [.str s,.int .u8 (.ofNat c)]⟩).run Tryz.prog w=.ok (.value (.int .i64 (Lib.indexByte (bytesV s).data.toList (UInt8.ofNat c)))) w:=by
 have:=Lib.run_indexByteString (P:=Tryz.prog) (bytesV s) (.ofNat c) w
 rw[run_callFunc_extern Tryz.func345 (by kernel_rfl) (by kernel_rfl) (by kernel_rfl) (e:=Extern.BytealgIndexByte.indexByte) (by kernel_rfl)]
 simp only[aF,ae]
 rw[this]
 rfl
theorem akK[dw](ro:Nat)(jP:FuncId→List MV→MH→Option (MV×MH))(bo:BinOp→TypeId→MV→MV→Option MV)(co:TypeId→TypeId→MV→Option MV):∀f k,(xN ro jP bo co).ext f=some k→∀σ V args v,yV k args=some (.val v)→wfs σ V args→wf σ V v∧∀w,(callFunc f ⟨aF σ args⟩).run Tryz.prog w=.ok (.value (ae σ v)) w:=by
 intro f k hk σ V args v ho hw
 have hf:f=345:=by
  cases hb:Nat.beq f 345 with
  |true=>exact Nat.eq_of_beq_eq_true hb
  |false=>
   have:(xN ro jP bo co).ext f=none:=by show cond (Nat.beq f 345) _ _=_;rw[hb];rfl
   rw[this]at hk;cases hk
 subst hf
 unfold yV at ho
 split at ho
 ·rename_i s c
  cases hc:Nat.blt c 256 with
  |false=>rw[hc]at ho;cases ho
  |true=>
   rw[hc]at ho
   cases ho
   have hs:∀b∈s,b<256:=by simp only[wfs,wf]at hw;exact hw.1
   refine⟨by simp only[wf],fun w=>?_⟩
   rw[idx_eq c (jf hc) s hs 0]
   refine(akJ s c σ w).trans ?_
   have e:(bytesV s).data.toList=s.map UInt8.ofNat:=by simp[bytesV]
   rw[e]
   simp only[ae]
   split
   ·rename_i h;rw[h]
   ·simp
 ·cases ho
theorem Wp[dw](ro:Nat)(jP:FuncId→List MV→MH→Option (MV×MH))(bo:BinOp→TypeId→MV→MV→Option MV)(co:TypeId→TypeId→MV→Option MV)
  (hb:∀op t x y v,bo op t x y=some v→∀(σ:Sg) (V:Nat→Prop),wf σ V x→wf σ V y→wf σ V v∧(ae σ x≠.nilIface∧∀c,ae σ x≠.agg c)∧∀w,(binOp op t (ae σ x) (ae σ y)).run Tryz.prog w=.ok (ae σ v) w)
  (hc:∀s d x v,co s d x=some v→∀(σ:Sg) (V:Nat→Prop),wf σ V x→wf σ V v∧∀w,(convert s d (ae σ x)).run Tryz.prog w=.ok (ae σ v) w):bT (xN ro jP bo co) Tryz.prog:=
 ⟨ajJ (E:=xN ro jP bo co) ty1 ty2,ajK (E:=xN ro jP bo co) Dh fn2,akK ro jP bo co,fun t ht=>ajL cm t (by
 have ht:(Option.rec false (fun _=>true) (uM.get t):Bool)=true:=ht
 cases h:uM.get t with
 |none=>rw[h]at ht;cases ht
 |some u=>rfl),mx,hb,hc⟩
theorem akL[dw](ro:Nat)(jP:FuncId→List MV→MH→Option (MV×MH)):bT (VW ro jP) Tryz.prog:=Wp ro jP _ _ (fun _ _ _ _ _ h=>by cases h) (fun _ _ _ _ h=>by cases h)
end Go.gQ
namespace Go.aI
open Go.RowKit
theorem akM:∀(l:List Int) (n:Nat) (S:Tr Int) (k:Nat),look (ins l n S) k=if n≤k∧k<n+l.length then Dx (l[k-n]?)else look S k:=by
 intro l
 induction l with
 |nil=>intro n S k;rw[if_neg (by simp)];rfl
 |cons a l ih=>
  intro n S k
  have e:ins (a::l) n S=ins l (n+1) (S.put n a):=rfl
  rw[e,ih]
  simp only[List.length_cons]
  by_cases h1:n+1≤k∧k<n+1+l.length
  ·rw[if_pos h1,if_pos (by omega),show k-n=(k-(n+1))+1 by omega];simp
  ·rw[if_neg h1]
   unfold look
   rw[Tr.get_put]
   by_cases h2:k=n
   ·subst h2;rw[if_pos rfl,if_pos (by omega)];simp
   ·rw[if_neg h2,if_neg (by omega)]
end Go.aI
namespace Go.gQ
open Go Go.aI Go.RowKit
theorem Wq(l:List Int)(hl:l.length=72)(k:Nat)(hk:k<72):iY jR l k=Dx (l[k]?):=by
 unfold iY
 rw[NJ _ _ _ k hk,akM,if_pos (by omega)];rfl
theorem xP:∀(n k i:Nat),(oG k n)[i]?=if i<n then some (.opq (k+i))else none:=by
 intro n
 induction n with
 |zero=>intro k i;rw[if_neg (by omega)];rfl
 |succ n ih=>
  intro k i
  have e:oG k (n+1)=.opq k::oG (k+1) n:=rfl
  rw[e]
  cases i with
  |zero=>simp
  |succ i=>
   rw[List.getElem?_cons_succ,ih]
   by_cases h:i<n
   ·rw[if_pos h,if_pos (by omega)];congr 2;omega
   ·rw[if_neg h,if_neg (by omega)]
theorem Ht(n k:Nat):(oG k n).length=n:=by
 have h1:=xP n k n
 rw[if_neg (Nat.lt_irrefl _),List.getElem?_eq_none_iff]at h1
 cases n with
 |zero=>omega
 |succ n=>
  have h2:=xP (n+1) k n
  rw[if_pos (by omega)]at h2
  have:=(List.getElem?_eq_some_iff.1 h2).1
  omega
theorem Hu(σ:Sg)(V:Nat→Prop)(k n:Nat):wfs σ V (oG k n)∧ones (oG k n)=true:=by
 have hm:∀v∈oG k n,∃j,v=.opq j:=fun v hv=>by
  obtain⟨i,hi⟩:=List.mem_iff_getElem?.1 hv
  rw[xP]at hi
  split at hi
  ·cases hi;exact⟨_,rfl⟩
  ·cases hi
 exact⟨(fP _).2 fun v hv=>by obtain⟨j,rfl⟩:=hm v hv;simp only[wf],(iq _).2 fun v hv=>by obtain⟨j,rfl⟩:=hm v hv;rfl⟩
theorem NV{m so:Nat}{mid:List MV}(hm:mid.length=8)(hs:so+8≤m)(i:Nat) :
  (qM m so mid)[i]?=if so≤i∧i<so+8 then mid[i-so]? else if i<m then some (.opq (100000+i))else none:=by
 unfold qM
 by_cases h1:i<so
 ·rw[List.getElem?_append_left (by rw[Ht];exact h1),xP,if_pos h1,if_neg (by omega),if_pos (by omega)]
 ·rw[List.getElem?_append_right (by rw[Ht];omega),Ht]
  by_cases h2:i<so+8
  ·rw[List.getElem?_append_left (by omega),if_pos (by omega)]
  ·rw[List.getElem?_append_right (by omega),xP,hm]
   have e1:Nat.sub m (Nat.add so 8)=m-(so+8):=rfl
   have e2:Nat.add 100008 so=100008+so:=rfl
   rw[e1,e2]
   have e3:¬(so≤i∧i<so+8):=by omega
   rw[if_neg e3]
   by_cases h3:i<m
   ·rw[if_pos (by omega),if_pos h3];congr 2;omega
   ·rw[if_neg (by omega),if_neg h3]
theorem akN{m so:Nat}{mid:List MV}(σ:Sg)(V:Nat→Prop)(h:wfs σ V mid∧ones mid=true):wfs σ V (qM m so mid)∧ones (qM m so mid)=true:=by
 unfold qM
 have a:=Hu σ V 100000 so
 have b:=Hu σ V (Nat.add 100008 so) (Nat.sub m (Nat.add so 8))
 rw[fP,iq]
 refine⟨fun v hv=>?_,fun v hv=>?_⟩
 ·simp only[List.mem_append]at hv
  rcases hv with hv|hv|hv
  ·exact(fP _).1 a.1 v hv
  ·exact(fP _).1 h.1 v hv
  ·exact(fP _).1 b.1 v hv
 ·simp only[List.mem_append]at hv
  rcases hv with hv|hv|hv
  ·exact(iq _).1 a.2 v hv
  ·exact(iq _).1 h.2 v hv
  ·exact(iq _).1 b.2 v hv
theorem DN(m so:Nat)(t u:TypeId)(k:Nat)(b:MB)(h:(DL m so t u).get k=some b):(k=11∧b=.cells (qM m so (oG 0 8)) t 1 false)∨(k=10∧b=.cells (oG 8 64) u 1 false)∨(k=eH.s1∧b=eH.b1)∨(k=eH.s0∧b=eH.b0):=by
 unfold DL nG.tab at h
 rw[Tr.get_put]at h
 split at h
 ·rename_i e;cases h;exact .inl ⟨e,rfl⟩
 ·rw[Tr.get_put]at h
  split at h
  ·rename_i e;cases h;exact .inr (.inl ⟨e,rfl⟩)
  ·rw[Tr.get_put]at h
   split at h
   ·rename_i e;cases h;exact .inr (.inr (.inl ⟨e,rfl⟩))
   ·rw[Tr.get_put]at h
    split at h
    ·rename_i e;cases h;exact .inr (.inr (.inr ⟨e,rfl⟩))
    ·rw[Tr.get_nil]at h;cases h
theorem akO(l:List Int)(X:Ext):@bT (kS jR l X) NU Go.Proofs.Tryz.prog:=
 @Wp (kS jR l X) 11 _ _ _ (fun op t x y v h σ V _ _=>akf op t x y v h σ V) (fun s d x v h σ V _=>akg (by kernel_rfl) (by kernel_rfl) s d x v h σ V)
def DR(w:World)(b:Nat)(l:List Nat)(t:TypeId):Prop:=∃(c:Array Value) (fz:Nat×Nat),w.heap[b]?=some (.cells c t fz)∧(∀(i n:Nat),l[i]?=some n→c[i]?=some (Value.int .u32 (n:Nat)))∧(fz.1=fz.2∨c.size≤fz.1)
theorem DR.blk[dw]{w:World}{b:Nat}{l:List Nat}{t:TypeId}(h:DR w b l t){σ:Sg}{V:Nat→Prop}(e:σ b=⟨b,0,0⟩):iV σ V b w (.cells (qc l) t 1 false):=by
 obtain⟨c,fz,h1,h2,h3⟩:=h
 rw[vM]
 have hm:∀v∈l.map (fun n=>MV.int .u32 (.ofNat n)),∃n:Nat,v=.int .u32 (.ofNat n):=fun v hv=>by obtain⟨n,-,rfl⟩:=List.mem_map.1 hv;exact⟨n,rfl⟩
 refine⟨c,fz,by rw[e];exact h1,(fP _).2 fun v hv=>by obtain⟨n,rfl⟩:=hm v hv;simp only[wf],(iq _).2 fun v hv=>by obtain⟨n,rfl⟩:=hm v hv;rfl,fun i v hv=>?_,fun hf=>(by cases hf),h3⟩
 rw[List.getElem?_map]at hv
 cases hi:l[i]? with
 |none=>rw[hi]at hv;cases hv
 |some n=>
  rw[hi]at hv;cases hv
  rw[e,Nat.zero_add]
  simp only[ae]
  exact h2 i n hi
structure NW(st bs:List Int)(vs:List Value)(m so sb wo bb bo:Nat)(t u:TypeId)(w:World):Prop where
 n8:st.length=8
 n64:bs.length=64
 nm:vs.length=m
 fit:so+8≤m
 one:∀v∈vs,v.cells=#[v]∧v.oneCell'=true
 words:∀i,i<8→vs[so+i]?=some (.int .u32 (Dx st[i]?))
 state:∃c fz,w.heap[sb]?=some (.cells c t fz)∧(∀i v,vs[i]?=some v→c[wo+i]?=some v)∧(fz.1=fz.2∨c.size≤fz.1)
 bytes:∃c fz,w.heap[bb]?=some (.cells c u fz)∧(∀i,i<64→c[bo+i]?=some (.int .u8 (Dx bs[i]?)))∧(fz.1=fz.2∨c.size≤fz.1)
 ne:bb≠sb
 lo:(sb≠eH.s0∧sb≠eH.s1)∧bb≠eH.s0∧bb≠eH.s1
 akP:DR w eH.s0 eH.l0 eH.t0
 sha1:DR w eH.s1 eH.l1 eH.t1
def qN(vs:List Value)(hv:∀v∈vs,v.cells=#[v]∧v.oneCell'=true):Ext where
 val i:=(vs[i]?).getD .nilFunc
 single i:=by
  cases h:vs[i]? with
  |none=>rfl
  |some v=>exact(hv v (List.mem_of_getElem? h)).1
 one i:=by
  cases h:vs[i]? with
  |none=>rfl
  |some v=>exact(hv v (List.mem_of_getElem? h)).2
def qO(sb wo bb bo:Nat):Sg:=fun k=>if k=10 then⟨bb,bo,0⟩else if k=11 then⟨sb,wo,0⟩else⟨k,0,0⟩
theorem akQ{st bs:List Int}{vs:List Value}{m so sb wo bb bo:Nat}{t u:TypeId}{w:World}(h:NW st bs vs m so sb wo bb bo t u w) :
  @VU (kS jR (st++bs) (qN vs h.one)) ⟨11,10⟩ 12 (fun k=>k<w.heap.size∧k≠sb) (DL m so t u) (qO sb wo bb bo) w:=by
 letI O:=kS jR (st++bs) (qN vs h.one)
 have hl:(st++bs).length=72:=by rw[List.length_append,h.n8,h.n64]
 have e10:qO sb wo bb bo 10=⟨bb,bo,0⟩:=rfl
 have e11:qO sb wo bb bo 11=⟨sb,wo,0⟩:=rfl
 have s0:qO sb wo bb bo eH.s0=⟨eH.s0,0,0⟩:=rfl
 have s1:qO sb wo bb bo eH.s1=⟨eH.s1,0,0⟩:=rfl
 have g0:eH.s0<10:=by decide
 have g1:eH.s1<10:=by decide
 refine⟨by decide,by decide,fun id b hb=>?_,fun id hid=>?_,fun id b hb=>?_,fun id id' b b' hb hb' _ _ he=>?_,fun id b hb _ hr=>?_⟩
 ·rcases DN m so t u id b hb with⟨rfl,-⟩|⟨rfl,-⟩|⟨rfl,-⟩|⟨rfl,-⟩<;>omega
 ·have hid:id<10:=hid
  unfold qO
  rw[if_neg (by omega),if_neg (by omega)]
  exact⟨rfl,rfl⟩
 ·rcases DN m so t u id b hb with⟨rfl,rfl⟩|⟨rfl,rfl⟩|⟨rfl,rfl⟩|⟨rfl,rfl⟩
  ·obtain⟨c,fz,h1,h2,h3⟩:=h.state
   obtain⟨a1,a2⟩:=akN (m:=m) (so:=so) (qO sb wo bb bo) (· < 12) (Hu (qO sb wo bb bo) (· < 12) 0 8)
   refine⟨c,fz,h1,a1,a2,fun i v hv=>?_,fun hf=>(by cases hf),h3⟩
   rw[NV (Ht 8 0) h.fit]at hv
   rw[e11]
   split at hv
   ·rename_i hi
    rw[xP,if_pos (by omega),Nat.zero_add]at hv
    cases hv
    have:=h2 (so+(i-so)) _ (h.words (i-so) (by omega))
    rw[show so+(i-so)=i by omega]at this
    rw[this]
    show _=some (jo jR (st++bs) (qN vs h.one) (i-so))
    have hb:jm (i-so)=true:=by
     unfold jm
     rw[show Nat.blt (i-so) 8=true from Nat.ble_eq_true_of_le (by omega)];rfl
    rw[vN hb,Wq _ hl (i-so) (by omega),List.getElem?_append_left (by rw[h.n8];omega)]
   ·split at hv
    ·rename_i hi
     cases hv
     have hlt:i<vs.length:=by rw[h.nm];exact hi
     rw[h2 i vs[i] (List.getElem?_eq_getElem hlt)]
     show _=some (jo jR (st++bs) (qN vs h.one) (100000+i))
     rw[Wj]
     show _=some ((vs[i]?).getD .nilFunc)
     rw[List.getElem?_eq_getElem hlt];rfl
    ·cases hv
  ·obtain⟨c,fz,h1,h2,h3⟩:=h.bytes
   obtain⟨a1,a2⟩:=Hu (qO sb wo bb bo) (· < 12) 8 64
   refine⟨c,fz,h1,a1,a2,fun i v hv=>?_,fun hf=>(by cases hf),h3⟩
   rw[xP]at hv
   split at hv
   ·rename_i hi
    cases hv
    rw[e10,h2 i hi]
    show _=some (jo jR (st++bs) (qN vs h.one) (8+i))
    have hk:jo jR (st++bs) (qN vs h.one) (8+i)=.int .u8 (iY jR (st++bs) (8+i)):=by
     rw[NP (by omega)]
     unfold DI jm
     have e1:Nat.blt (8+i) 8=false:=by
      cases hh:Nat.blt (8+i) 8 with
      |false=>rfl
      |true=>have:=jf hh;omega
     have e2:Nat.ble 72 (8+i)=false:=by
      cases hh:Nat.ble 72 (8+i)with
      |false=>rfl
      |true=>have:=Nat.le_of_ble_eq_true hh;omega
     rw[e1,e2];rfl
    rw[hk,Wq _ hl (8+i) (by omega),List.getElem?_append_right (by rw[h.n8];omega),h.n8,show 8+i-8=i by omega]
   ·cases hv
  ·exact h.sha1.blk s1
  ·exact h.akP.blk s0
 ·obtain⟨⟨l1,l2⟩,l3,l4⟩:=h.lo
  have:=h.ne
  rcases DN m so t u id b hb with⟨rfl,-⟩|⟨rfl,-⟩|⟨rfl,-⟩|⟨rfl,-⟩<;>rcases DN m so t u id' b' hb' with⟨rfl,-⟩|⟨rfl,-⟩|⟨rfl,-⟩|⟨rfl,-⟩<;>first
   |rfl
   |(exfalso;simp only[e10,e11,s0,s1]at he;first|exact absurd he (by decide)|(exact absurd he ‹_›)|(exact absurd he.symm ‹_›))
 ·have hr:11≤id:=hr
  rcases DN m so t u id b hb with⟨rfl,-⟩|⟨rfl,-⟩|⟨rfl,-⟩|⟨rfl,-⟩
  ·rintro⟨-,hx⟩;exact hx rfl
  ·omega
  ·omega
  ·omega
def NY:Prop:=∀(x:Int) (b o cap:Nat) (ps:List Nat),(∀p∈ps,1≤p∧p≤31)→ps.length≤64→∀w:World,(∀i (h:i<ps.length),w.cell? ⟨b,o+i,none⟩=some (.int .i64 (ps[i]:Nat)))→
   Calls Go.Proofs.Tryz.prog 159 #[.int .u32 x,.slice (some ⟨b,o,none⟩) ps.length cap] w (fun e w'=>e=.returned (.int .u32 (ps.foldl (fun y p=>bits .xor .u32 y (Ha x (32-p))) 0))∧w=w')
def NZ:Prop:=∀(x y z:Int) (w:World),Calls Go.Proofs.Tryz.prog 160 #[.int .u32 x,.int .u32 y,.int .u32 z] w (fun e w'=>e=.returned (.int .u32 (Hg x y z))∧w=w')
noncomputable def Ws(st bs:List Int)(i:Nat):Int:=iY jR (st++bs) (1561+i)
theorem akR(i:Nat)(hi:i<8):Hq[i]?=some (.opq (1561+i)):=by
 match i,hi with
 |0,_=>rfl
 |1,_=>rfl
 |2,_=>rfl
 |3,_=>rfl
 |4,_=>rfl
 |5,_=>rfl
 |6,_=>rfl
 |7,_=>rfl
theorem akS(hT:NY)(hC:NZ){st bs:List Int}{vs:List Value}{m so sb wo bb bo:Nat}{t u:TypeId}{w:World}(hrun:Hr m so)(h:NW st bs vs m so sb wo bb bo t u w) :
  Calls Go.Proofs.Tryz.prog 118 #[.pointer (some ⟨sb,wo+so,none⟩),.slice (some ⟨bb,bo,none⟩) 64 64] w fun e w'=>e=.returned (.tuple #[])∧Kept (fun k=>k<w.heap.size∧k≠sb) w w'∧
   ∃c fz,w'.heap[sb]?=some (.cells c t fz)∧(∀i,i<8→c[wo+(so+i)]?=some (.int .u32 (Ws st bs i)))∧(∀i v,(i<so∨so+8≤i)→vs[i]?=some v→c[wo+i]?=some v)∧(fz.1=fz.2∨c.size≤fz.1):=by
 letI O:=kS jR (st++bs) (qN vs h.one)
 have hW:∀k,(k<w.heap.size∧k≠sb)→k<w.heap.size:=fun _ hk=>hk.1
 have hO:zQ NU Go.Proofs.Tryz.prog (fun k=>k<w.heap.size∧k≠sb) w:=VX (zX (akh hW hT) (aki hW hC))
 have hE:=akO (st++bs) (qN vs h.one)
 have hr:=hrun t u
 unfold Wn at hr
 split at hr
 ·rename_i h' he
  split at hr
  ·rename_i cs v es o hg
   cases hr
   obtain⟨F,-,-,hc⟩:=(Vz (W0:=w) hE hO hW (fun go hgo=>VT hE hW hgo) 60).1 118 _ ⟨DL m so t u,12⟩ _ _ he
   have:=hc (qO sb wo bb bo) (· < 12) w (ajG (akQ h)) (by simp only[wfs,wf];exact⟨by decide,⟨by decide,Nat.le_refl _⟩,trivial⟩)
   refine this.mono ?_
   rintro e w' ⟨σ',V',a1,a2,-,-,R,-,rfl⟩
   have e11:σ' 11=⟨sb,wo,0⟩:=a1 11 (by decide)
   obtain⟨c,fz,k1,-,-,k4,-,k6⟩:=R.blk 11 _ (a2 11 (by decide)) hg
   rw[e11]at k1 k4
   refine⟨rfl,R.below,c,fz,k1,fun i hi=>?_,fun i v hi hv=>?_,k6⟩
   ·have hv:(qM m so Hq)[so+i]?=some (.opq (1561+i)):=by
     rw[NV rfl h.fit,if_pos (by omega),show so+i-so=i by omega,akR i hi]
    rw[k4 _ _ hv]
    show some (jo jR (st++bs) (qN vs h.one) (1561+i))=_
    have hb:jm (1561+i)=true:=by
     unfold jm
     rw[Nat.ble_eq_true_of_le (show 72≤1561+i by omega),show Nat.blt (1561+i) 100000=true from Nat.ble_eq_true_of_le (by omega)]
     cases Nat.blt (1561+i) 8<;>rfl
    rw[vN hb];rfl
   ·have hlt:=(List.getElem?_eq_some_iff.1 hv).1
    rw[h.nm]at hlt
    have hq:(qM m so Hq)[i]?=some (.opq (100000+i)):=by
     rw[NV rfl h.fit,if_neg (by omega),if_pos hlt]
    rw[k4 _ _ hq]
    show some (jo jR (st++bs) (qN vs h.one) (100000+i))=_
    rw[Wj]
    show some ((vs[i]?).getD .nilFunc)=_
    rw[hv];rfl
  ·cases hr
 ·cases hr
end Go.gQ
namespace Go.aI
open Go.RowKit
variable [O:dw] {G:GB} {B:Nat→Prop} {W0:World} {σ:Sg} {V:Nat→Prop} {h:MH} {w w':World}
theorem Rel.akV(R:Rel G B W0 σ V h w){id:Nat}{b0 b:MB}(hv:V id)(hb0:h.get id=some b0)(hl0:live b0=true)(hG:G.ro≤id)
  (hW:∀k,B k→k<W0.heap.size) (hk:Kept (fun k=>k<w.heap.size∧k≠(σ id).blk) w w') (hblk:iV σ V id w' b):Rel G B W0 σ V (h.set id b) w':=by
 have hget:∀k,k≠id→(h.set id b).get k=h.get k:=fun k hk=>by rw[MH.vg,if_neg hk]
 have hsame:(h.set id b).get id=some b:=by rw[MH.vg,if_pos rfl]
 have hown:=R.own id b0 hv hb0 hl0 hG
 refine⟨fun k b' hk' hb'=>?_,fun xC xE b1 b2 hv1 hv2 h1 h2 l1 l2 he=>?_,fun k b' hk' hb' hl hg=>?_,R.kR,fun k b' hb'=>?_,R.vx,R.gx,
  ⟨hk.os.trans R.below.os,hk.tape.trans R.below.tape,hk.output.trans R.below.output,Nat.le_trans R.below.size hk.size,fun k hB=>?_⟩⟩
 ·by_cases e:k=id
  ·subst e;rw[hsame]at hb';cases hb';exact hblk
  ·rw[hget k e]at hb'
   refine(R.blk k b' hk' hb').jb (fun _ _=>rfl) (fun _ hx=>hx) hk' (fun hl=>hk.block _ ⟨R.lt hk' hb' hl,fun e'=>e ?_⟩)
   exact R.inj k id b' b0 hk' hv hb' hb0 hl hl0 e'
 ·by_cases e1:xC=id<;>by_cases e2:xE=id
  ·rw[e1,e2]
  ·subst e1;rw[hget _ e2]at h2;exact R.inj _ _ _ _ hv1 hv2 hb0 h2 hl0 l2 he
  ·subst e2;rw[hget _ e1]at h1;exact R.inj _ _ _ _ hv1 hv2 h1 hb0 l1 hl0 he
  ·rw[hget _ e1]at h1;rw[hget _ e2]at h2;exact R.inj _ _ _ _ hv1 hv2 h1 h2 l1 l2 he
 ·by_cases e:k=id
  ·subst e;exact hown
  ·rw[hget k e]at hb';exact R.own k b' hk' hb' hl hg
 ·by_cases e:k=id
  ·subst e;exact R.nx _ _ hb0
  ·rw[hget k e]at hb';exact R.nx k b' hb'
 ·have hlt:k<w.heap.size:=Nat.lt_of_lt_of_le (hW k hB) R.below.size
  exact(hk.block k ⟨hlt,fun e=>hown (e▸hB)⟩).trans (R.below.block k hB)
omit O in
theorem akW{v:Value}(h:v.oneCell'=true):v.cells=#[v]∧v.oneCell'=true:=by
 refine⟨?_,h⟩
 cases v<;>first|rfl|cases h
noncomputable def wordsOf(l:List MV):Option (List Nat):=
 List.rec (some []) (fun v _ ih=>match v with
  | .int .u32 (.ofNat n)=>match ih with|some r=>some (n::r)|none=>none
  |_=>none) l
omit O in
theorem akX(v:MV)(l:List MV):wordsOf (v::l)=(match v with
  | .int .u32 (.ofNat n)=>match wordsOf l with|some r=>some (n::r)|none=>none
  |_=>none):=rfl
omit O in
theorem akY:∀(l:List MV) (ws:List Nat),wordsOf l=some ws→l=ws.map (fun n=>.int .u32 (.ofNat n)):=by
 intro l
 induction l with
 |nil=>
   intro ws h;have e:wordsOf []=some []:=rfl
   rw[e]at h;cases h;rfl
 |cons v l ih=>
  intro ws h
  rw[akX]at h
  split at h
  ·split at h
   ·rename_i r hr
    cases h
    rw[ih r hr];rfl
   ·cases h
  ·cases h
noncomputable def ints(l:List Nat):List Int:=List.rec [] (fun n _ ih=>Int.ofNat n::ih) l
omit O in
theorem DT(l:List Nat):ints l=l.map Int.ofNat:=by
 induction l with
 |nil=>rfl
 |cons n l ih=>exact congrArg (Int.ofNat n::·) ih
end Go.aI
namespace Go.gQ
open Go Go.aI Go.RowKit
noncomputable def Wu(S:Tr Int):List Int:=[aI.look S 1561,aI.look S 1562,aI.look S 1563,aI.look S 1564,aI.look S 1565,aI.look S 1566,aI.look S 1567,aI.look S 1568]
def jG(st bs out:List Nat):Prop:=Wu (ssa jR.tab 72 (ins (ints st++ints bs) 0 .nil))=ints out
theorem jG.get{st bs out:List Nat}(h:jG st bs out)(i:Nat)(hi:i<8):(ints out)[i]?=some (Ws (ints st) (ints bs) i):=by
 unfold jG Wu at h
 rw[←h]
 match i,hi with
 |0,_=>rfl
 |1,_=>rfl
 |2,_=>rfl
 |3,_=>rfl
 |4,_=>rfl
 |5,_=>rfl
 |6,_=>rfl
 |7,_=>rfl
abbrev xQ:=List (List Nat×List Nat×List Nat)
noncomputable def Hw(tab:xQ)(st bs:List Nat):Option (List Nat):=List.rec none (fun p _ ih=>Bool.rec ih (some p.2.2) (and (ng p.1 st) (ng p.2.1 bs))) tab
theorem akZ{tab:xQ}{st bs out:List Nat}(h:Hw tab st bs=some out):(st,bs,out)∈tab:=by
 induction tab with
 |nil=>cases h
 |cons p tab ih=>
  have e:Hw (p::tab) st bs=Bool.rec (Hw tab st bs) (some p.2.2) (and (ng p.1 st) (ng p.2.1 bs)):=rfl
  rw[e]at h
  cases hq:and (ng p.1 st) (ng p.2.1 bs)with
  |false=>rw[hq]at h;exact List.mem_cons_of_mem _ (ih h)
  |true=>
   rw[hq]at h;cases h
   obtain⟨q1,q2⟩:=dL hq
   rw[←Dj _ _ q1,←Dj _ _ q2]
   exact List.mem_cons_self
def N7(n so:Nat):Bool:=and (or (Nat.beq n 8) (Nat.beq n 73)) (Nat.beq so 0)
theorem ak0{n so:Nat}(h:N7 n so=true):Hr n so∧so+8≤n:=by
 obtain⟨h1,h2⟩:=dL h
 obtain rfl:=Nat.eq_of_beq_eq_true h2
 cases h8:Nat.beq n 8 with
 |true=>obtain rfl:=Nat.eq_of_beq_eq_true h8;exact⟨akT,by decide⟩
 |false=>
  rw[h8]at h1
  obtain rfl:=Nat.eq_of_beq_eq_true (show Nat.beq n 73=true from h1)
  exact⟨akU,by decide⟩
noncomputable def Wv(h:MH):Bool:=and (zY eH.b0 (h.get eH.s0)) (zY eH.b1 (h.get eH.s1))
theorem Wx{b:MB}{x:Option MB}(hx:zY b x=true):x=some b:=by
 unfold zY at hx
 split at hx
 ·rw[VE _ _ hx]
 ·cases hx
noncomputable def Wy(tab:xQ):Option (List MV)→Option (List MV)→Option (List Nat)
 |some l,some d=>match wordsOf l,bytesOf d with
  |some st,some bs=>Hw tab st bs
  |_,_=>none
 |_,_=>none
noncomputable def WA(h:MH)(s so b bo:Nat)(tab:xQ):Option (MV×MH):=
 match h.get s,h.get b with
 |some (.cells cs t es false),some (.cells ds _ _ _)=>cond (and (N7 (dC cs 0) so) (Wv h)) (match Wy tab (kP 8 (uN so cs)) (kP 64 (uN bo ds))with
  |some out=>cond (Nat.beq (dC out 0) 8) (some (.bY [],h.set s (.cells (jD so (qc out) cs) t es false))) none
  |none=>none) none
 |_,_=>none
noncomputable def N8(f a ro:Nat)(tab:xQ):lJ:=fun g args h=>
 cond (Nat.beq g f) (match args with
  | [.ptr s so,.sl b bo len cap]=>cond (and (and (Nat.beq len 64) (Nat.beq cap 64)) (and (and (Nat.ble a s) (Nat.ble ro s)) (and (Nat.ble a b) (not (Nat.beq s b))))) (WA h s so b bo tab) none
  |_=>none) none
theorem WB[dw]{G:GB}{B:Nat→Prop}{W0:World}{σ:Sg}{V:Nat→Prop}{h:MH}{w:World}(R:Rel G B W0 σ V h w){s:Nat}{l:List Nat}{t:TypeId}(hs:s<G.g0)(hg:h.get s=some (.cells (qc l) t 1 false)):DR w s l t:=by
 obtain⟨g1,g2,g3⟩:=R.kR s hs
 obtain⟨c,fz,k1,-,-,k4,-,k6⟩:=R.blk s _ g1 hg
 rw[g2]at k1
 refine⟨c,fz,k1,fun i n hi=>?_,k6⟩
 have:=k4 i (.int .u32 (.ofNat n)) (by rw[vM,List.getElem?_map,hi];rfl)
 rw[g3,Nat.zero_add]at this
 exact this
theorem ak1[dw](hT:NY)(hC:NZ){tab:xQ}(facts:∀p∈tab,jG p.1 p.2.1 p.2.2){G:GB}(Hy:G.g0=10){B:Nat→Prop}{W0:World}(hW:∀k,B k→k<W0.heap.size) :
  qL G Go.Proofs.Tryz.prog B W0 (N8 118 10 G.ro tab):=by
 intro g args h v h' ho σ V w R hw
 unfold N8 at ho
 cases hg:Nat.beq g 118 with
 |false=>rw[hg]at ho;cases ho
 |true=>
  rw[hg]at ho
  obtain rfl:=Nat.eq_of_beq_eq_true hg
  simp only[cond_true]at ho
  split at ho
  ·rename_i s so b bo len cap
   cases hq:and (and (Nat.beq len 64) (Nat.beq cap 64)) (and (and (Nat.ble 10 s) (Nat.ble G.ro s)) (and (Nat.ble 10 b) (not (Nat.beq s b))))with
   |false=>rw[hq]at ho;cases ho
   |true=>
    rw[hq]at ho
    simp only[cond_true]at ho
    obtain⟨q1,q2⟩:=dL hq
    obtain⟨q11,q12⟩:=dL q1
    obtain⟨q2,q3⟩:=dL q2
    obtain⟨Hz,q22⟩:=dL q2
    obtain⟨H9,q32⟩:=dL q3
    obtain rfl:=Nat.eq_of_beq_eq_true q11
    obtain rfl:=Nat.eq_of_beq_eq_true q12
    have Hz:=Nat.le_of_ble_eq_true Hz
    have q22:=Nat.le_of_ble_eq_true q22
    have H9:=Nat.le_of_ble_eq_true H9
    have hsb:s≠b:=fun e=>by subst e;rw[Nat.beq_refl]at q32;cases q32
    simp only[wfs,wf]at hw
    obtain⟨hvs,⟨hvb,-⟩,-⟩:=hw
    unfold WA at ho
    split at ho
    ·rename_i cs t es ds u es2 o2 hgs hgb
     cases hl:and (N7 (dC cs 0) so) (Wv h)with
     |false=>rw[hl]at ho;cases ho
     |true=>
      rw[hl]at ho
      simp only[cond_true]at ho
      obtain⟨l1,l2⟩:=dL hl
      rw[jl,Nat.add_zero]at l1
      obtain⟨l3,l4⟩:=dL l2
      have l3:=Wx l3
      have l4:=Wx l4
      obtain⟨hrun,hfit⟩:=ak0 l1
      split at ho
      ·rename_i out hout
       cases h8:Nat.beq (dC out 0) 8 with
       |false=>rw[h8]at ho;cases ho
       |true=>
        rw[h8]at ho
        cases ho
        have h8:=Nat.eq_of_beq_eq_true h8
        rw[jl,Nat.add_zero]at h8
        unfold Wy at hout
        split at hout
        ·rename_i l d hl hd
         split at hout
         ·rename_i st bs hst hbs
          have hfact:=facts _ (akZ hout)
          have e1:=akY _ _ hst
          obtain⟨b1,b2⟩:=U6 _ _ hbs
          obtain⟨t1,t2⟩:=sU hl
          obtain⟨t3,t4⟩:=sU hd
          rw[CG]at t1 t2 t3 t4
          have hl8:l.length=8:=by rw[t2,List.length_take];omega
          have ak3:d.length=64:=by rw[t4,List.length_take];omega
          have ak4:st.length=8:=by rw[←hl8,e1];simp
          have ak5:bs.length=64:=by rw[←ak3,b2];simp
          have iU:∀i,i<8→cs[so+i]?=l[i]?:=fun i hi=>by
           rw[t2,List.getElem?_take,if_pos hi,List.getElem?_drop]
          have ak6:∀i,i<64→ds[bo+i]?=d[i]?:=fun i hi=>by
           rw[t4,List.getElem?_take,if_pos hi,List.getElem?_drop]
          obtain⟨c,fz,k1,k2,k3,k4,-,k6⟩:=R.blk s _ hvs hgs
          obtain⟨c',fz',j1,j2,j3,j4,-,j6⟩:=R.blk b _ hvb hgb
          have hone:∀v∈aF σ cs,v.cells=#[v]∧v.oneCell'=true:=fun v hv=>by
           rw[dS]at hv
           obtain⟨x,hx,rfl⟩:=List.mem_map.1 hv
           exact akW (Mc σ ((iq _).1 k3 x hx))
          have g0:=R.kR eH.s0 (by rw[Hy];decide)
          have g1:=R.kR eH.s1 (by rw[Hy];decide)
          have far:∀k x,k<10→V k→h.get k=some x→live x=true→(σ k).blk=k→∀j y,10≤j→V j→h.get j=some y→live y=true→(σ j).blk≠k:=fun k x hk hvk hgk hlk ek j y hj hvj hgj hlj e=>by
           have:=R.inj j k y x hvj hvk hgj hgk hlj hlk (by rw[e,ek])
           omega
          have hat:NW (ints st) (ints bs) (aF σ cs) cs.length so (σ s).blk (σ s).off (σ b).blk ((σ b).off+bo) t u w:=by
           refine⟨by rw[DT];simpa using ak4,by rw[DT];simpa using ak5,by rw[dS];simp,hfit,hone,fun i hi=>?_,⟨c,fz,k1,fun i v hv=>?_,k6⟩,⟨c',fz',j1,fun i hi=>?_,j6⟩,?_,⟨⟨?_,?_⟩,?_,?_⟩,?_,?_⟩
           ·rw[dS,List.getElem?_map,iU i hi,e1,List.getElem?_map,DT,List.getElem?_map,List.getElem?_eq_getElem (show i<st.length by omega)]
            rfl
           ·rw[dS,List.getElem?_map]at hv
            cases hx:cs[i]? with
            |none=>rw[hx]at hv;cases hv
            |some x=>rw[hx]at hv;cases hv;exact k4 i x hx
           ·have hx:ds[bo+i]?=some (.int .u8 (.ofNat (bs[i]'(by omega)))):=by
             rw[ak6 i hi,b2,List.getElem?_map,List.getElem?_eq_getElem (show i<bs.length by omega)];rfl
            have:=j4 (bo+i) _ hx
            rw[←Nat.add_assoc]at this
            rw[this,DT,List.getElem?_map,List.getElem?_eq_getElem (show i<bs.length by omega)]
            rfl
           ·exact fun e=>hsb (R.inj s b _ _ hvs hvb hgs hgb rfl rfl e.symm)
           ·exact far _ _ (by decide) g0.1 l3 rfl g0.2.1 s _ Hz hvs hgs rfl
           ·exact far _ _ (by decide) g1.1 l4 rfl g1.2.1 s _ Hz hvs hgs rfl
           ·exact far _ _ (by decide) g0.1 l3 rfl g0.2.1 b _ H9 hvb hgb rfl
           ·exact far _ _ (by decide) g1.1 l4 rfl g1.2.1 b _ H9 hvb hgb rfl
           ·exact WB R (by rw[Hy];decide) l3
           ·exact WB R (by rw[Hy];decide) l4
          have hc:=akS hT hC hrun hat
          have ea:(⟨aF σ [.ptr s so,.sl b bo 64 64]⟩:Array Value)=#[.pointer (some ⟨(σ s).blk,(σ s).off+so,none⟩),.slice (some ⟨(σ b).blk,(σ b).off+bo,none⟩) 64 64]:=by
           simp only[aF,ae]
          rw[ea]
          refine hc.mono ?_
          rintro e w' ⟨rfl,hkept,c2,fz2,m1,m2,m3,m4⟩
          have N9:(qc out).length=8:=by rw[vM];simpa using h8
          obtain⟨n1,n2⟩:=mr so (qc out) cs (by rw[N9];exact hfit)
          have hm:∀v∈qc out,∃n:Nat,v=.int .u32 (.ofNat n):=fun v hv=>by rw[vM]at hv;obtain⟨n,-,rfl⟩:=List.mem_map.1 hv;exact⟨n,rfl⟩
          obtain⟨w1,w2,-⟩:=L6 (off:=so) (by rw[N9];exact hfit) ((fP _).2 fun v hv=>by obtain⟨n,rfl⟩:=hm v hv;simp only[wf]) ((iq _).2 fun v hv=>by obtain⟨n,rfl⟩:=hm v hv;rfl) k2 k3
          have hblk:iV σ V s w' (.cells (jD so (qc out) cs) t es false):=by
           refine⟨c2,fz2,m1,w1,w2,fun i v hv=>?_,fun hf=>(by cases hf),m4⟩
           rw[n2,N9]at hv
           split at hv
           ·rename_i hi
            have hj:=hfact.get (i-so) (by omega)
            rw[DT,List.getElem?_map]at hj
            rw[vM,List.getElem?_map]at hv
            cases hx:out[i-so]? with
            |none=>rw[hx]at hv;cases hv
            |some n=>
             rw[hx]at hv hj
             cases hv
             have hm2:=m2 (i-so) (by omega)
             rw[show so+(i-so)=i by omega]at hm2
             rw[hm2]
             simp only[Option.map_some,Option.some.injEq]at hj
             rw[←hj]
             simp only[ae]
           ·rename_i hi
            exact m3 i (ae σ v) (by omega) (by rw[dS,List.getElem?_map,hv];rfl)
          exact⟨σ,V,dJ.refl _ _,fun _ hx=>hx,fun _ hx=>.inl hx,Nat.le_refl _,R.akV hvs hgs rfl q22 hW hkept hblk,by simp only[wf,wfs],rfl⟩
         ·cases hout
        ·cases hout
      ·cases ho
    ·cases ho
  ·cases ho
end Go.gQ
namespace Go.gQ
open Go Go.aI
def WC:List Nat:=[1779033703,3144134277,1013904242,2773480762,1359893119,2600822924,528734635,1541459225]
def WE:List Nat:=[119,97,116,99,104,119,111,114,100,32,108,111,103,0,82,128,0,0,0,0,0,0,0,0,0,0,0,0,0,0,0,0,0,0,0,0,0,0,0,0,0,0,0,0,0,0,0,0,0,0,0,0,0,0,0,0,0,0,0,0,0,0,0,120]
def WG:List Nat:=[2532462836,1835907440,3211111590,2006613670,1592240103,81908397,2745463680,3864156139]
theorem a0:jG WC WE WG:=by
 unfold jG
 kernel_rfl
def WH:List Nat:=[1779033703,3144134277,1013904242,2773480762,1359893119,2600822924,528734635,1541459225]
def WI:List Nat:=[150,242,80,244,109,109,185,112,191,101,172,166,119,154,126,166,94,231,167,231,4,225,210,173,163,164,115,128,230,82,87,235,48,97,160,3,2,1,1,161,3,2,1,1,162,8,24,6,0,0,0,0,0,10,163,3,2,1,3,164,70,27,68,112]
def WJ:List Nat:=[1117712953,3472450654,431527714,2280091502,3255812217,925142350,3359244966,1986197724]
theorem a1:jG WH WI WJ:=by
 unfold jG
 kernel_rfl
def WL:List Nat:=[1117712953,3472450654,431527714,2280091502,3255812217,925142350,3359244966,1986197724]
def WM:List Nat:=[49,32,108,101,110,103,116,104,61,49,32,99,108,97,115,115,101,115,61,49,32,100,105,115,116,105,110,99,116,61,48,32,104,105,115,116,111,114,121,61,48,32,97,103,101,61,48,46,46,48,32,102,97,105,108,115,61,48,32,108,111,99,107,61]
def WN:List Nat:=[1347067814,1210016038,3038199863,3146549455,2361049093,421614210,1481980918,1902435950]
theorem a2:jG WL WM WN:=by
 unfold jG
 kernel_rfl
def WO:List Nat:=[1347067814,1210016038,3038199863,3146549455,2361049093,421614210,1481980918,1902435950]
def WQ:List Nat:=[48,47,48,128,0,0,0,0,0,0,0,0,0,0,0,0,0,0,0,0,0,0,0,0,0,0,0,0,0,0,0,0,0,0,0,0,0,0,0,0,0,0,0,0,0,0,0,0,0,0,0,0,0,0,0,0,0,0,0,0,0,0,4,24]
def WR:List Nat:=[3999653201,1158376833,2699927525,4061838700,171609973,1932110132,1842596427,1158531564]
theorem a3:jG WO WQ WR:=by
 unfold jG
 kernel_rfl
def WS:List Nat:=[1779033703,3144134277,1013904242,2773480762,1359893119,2600822924,528734635,1541459225]
def WT:List Nat:=[238,101,221,81,69,11,109,129,160,237,159,229,242,26,189,108,10,58,143,117,115,41,169,52,109,211,202,75,69,13,201,236,48,62,160,3,2,1,2,161,3,2,1,1,162,8,24,6,0,0,0,0,0,10,163,3,2,1,1,164,35,4,33,48]
def WU:List Nat:=[3675374511,1345724488,4018851919,2923458888,2821109352,3588753609,4200734427,2742908795]
theorem a4:jG WS WT WU:=by
 unfold jG
 kernel_rfl
def WV:List Nat:=[3675374511,1345724488,4018851919,2923458888,2821109352,3588753609,4200734427,2742908795]
def WX:List Nat:=[31,160,14,48,12,160,5,48,3,27,1,97,161,3,27,1,82,162,7,3,5,0,0,0,0,0,165,4,27,2,112,49,128,0,0,0,0,0,0,0,0,0,0,0,0,0,0,0,0,0,0,0,0,0,0,0,0,0,0,0,0,0,3,0]
def WY:List Nat:=[2713731621,1946880036,3871043372,2158050665,1502362333,2678034814,1197631410,3200382192]
theorem a5:jG WV WX WY:=by
 unfold jG
 kernel_rfl
def WZ:List Nat:=[1779033703,3144134277,1013904242,2773480762,1359893119,2600822924,528734635,1541459225]
def W9:List Nat:=[238,101,221,81,69,11,109,129,160,237,159,229,242,26,189,108,10,58,143,117,115,41,169,52,109,211,202,75,69,13,201,236,48,31,160,3,2,1,2,161,3,2,1,1,162,8,24,6,0,0,0,0,0,10,163,3,2,1,4,164,4,27,2,112]
def Xa:List Nat:=[1522384368,182108938,4003529929,2305870970,2600671139,3847769815,1107440660,1820402100]
theorem a6:jG WZ W9 Xa:=by
 unfold jG
 kernel_rfl
def Xb:List Nat:=[1522384368,182108938,4003529929,2305870970,2600671139,3847769815,1107440660,1820402100]
def Xc:List Nat:=[49,128,0,0,0,0,0,0,0,0,0,0,0,0,0,0,0,0,0,0,0,0,0,0,0,0,0,0,0,0,0,0,0,0,0,0,0,0,0,0,0,0,0,0,0,0,0,0,0,0,0,0,0,0,0,0,0,0,0,0,0,0,2,8]
def Xd:List Nat:=[1319158976,2447346682,2585283014,3566362078,2487187398,2439425873,1929157877,3755996358]
theorem a7:jG Xb Xc Xd:=by
 unfold jG
 kernel_rfl
noncomputable def Oa:xQ:=[(WC,WE,WG),(WH,WI,WJ),(WL,WM,WN),(WO,WQ,WR),(WS,WT,WU),(WV,WX,WY),(WZ,W9,Xa),(Xb,Xc,Xd)]
noncomputable def Xe:lJ:=vJ (N8 118 10 40 Oa) (vJ (ND 223) (vJ (NG 256) (vJ (Dw 125) (vJ (Dw 126) (Dw 127)))))
noncomputable def Ia:Env:=VW 40 Xe
end Go.gQ
